/- Part 23 of 27. -/
import Derived.Test.YtgdmfledhhoedaaGreatDoorD22
import Derived.Test.YtgdmfledhhoedaaGreatDoorD10
import Derived.Test.YtgdmfledhhoedaaGreatDoorD02
import Derived.Test.YtgdmfledhhoedaaGreatDoorD11
import Derived.Test.YtgdmfledhhoedaaGreatDoorD18
import Derived.Test.YtgdmfledhhoedaaGreatDoorD20
namespace Go.Proofs.YtgdmfledhhoedaaGreatDoor.T
set_option maxRecDepth 8000
open Go.ChangeShapes Go.WideShapes Go.ChangeAt Go.RowKit Go.Burg Go.Shelf
open Go.Burg.Lk
variable {L:List Kd}
theorem kidsL_at {j:Nat} {kd:Kd} (h:L[j]?=some kd):(z2v L)[j * 2]?=some (.int .i64 kd.s)/\(z2v L)[j * 2+1]?=some (.int .u32 kd.g):=by
 rw[kidsL_refs]
 exact refsL_get (r:=(kd.s,kd.g)) (by rw[List.getElem?_map,h];rfl)
theorem row_at {w:World} {za:Option Addr} {zc:Nat} (h:w.ownsRow 0 36 2 (.slice za L.length zc) L.length (z2v L)) {j:Nat} {kd:Kd} (hj:L[j]?=some kd) :
 ∃ gz cs fr,za=some ⟨gz,0,none⟩/\w.heap[gz]?=some (.cells cs 36 fr)/\cs[j * 2]?=some (.int .i64 kd.s)/\cs[j * 2+1]?=some (.int .u32 kd.g):=by
 have hl:=(List.getElem?_eq_some_iff.1 hj).1
 obtain⟨g1,e1,_,hc⟩:=O.z0z h (by omega)
 subst e1
 obtain⟨_,⟨e,_⟩|⟨g,cap,cur,e,_,hg,_⟩⟩:=h
 ·cases e
 ·cases e
  obtain⟨k0,k1⟩:=kidsL_at hj
  exact⟨g1,cur,_,rfl,hg,(cell_of hg _).symm.trans (hc _ _ k0),(cell_of hg _).symm.trans (hc _ _ k1)⟩
theorem below_own {n₀:Nat} {wz:World} {l:List (Cel Nd)} {P:List (Cel PNd)} {t sb sg kb km:Nat} (hRel:Rel wz l P) (Mine:World->Nat->Prop) {X:World->Prop} (hMine:MineX n₀ Mine X)
 {i:Nat} {g:Int} {S:Nat->Prop} {R:List (Int × Int)} {E:Ents} (hP:Post P i g S R E) :
 ∀ (A:Nat) (w0:World),w0.heap[A]?=some (.cells #[.pointer (some ⟨t,0,none⟩)] 25 (0,0))->w0.heap[A+1]?=some (.cells #[.int .i64 i,.int .u32 g] 36 (0,0))->n₀<=A->¬ Mine w0 A->¬ Mine w0 (A+1)->X w0->SeqOwnC (BelC X wz l S t sb sg kb km) Mine Tryz.prog 107 #[.pointer (some ⟨A,0,none⟩),.pointer (some ⟨(A+1),0,none⟩)] encR n₀ (fun xs=>xs=R) (fun pre=>pre <+: R) w0:=by
 induction hP with
 | @leaf i g c v pl di h =>
  intro A w0 hA hA1 hn hm1 hm2 hx0
  obtain⟨⟨xis,⟨kn,cd,vl,xp,⟨ya,yn,yc⟩,⟨za,zn,zc⟩,xpl,xdi⟩,xgn⟩,hLx,_,_,hNx⟩:=hRel.live h
  obtain⟨_,_,_,_,_,e6⟩:=hNx
  simp only at e6
  cases e6
  obtain rfl:xis=true:=hLx.2.2.1
  obtain rfl:xgn=g:=hLx.2.2.2
  exact below_walk Mine hMine (R:=[((i:Int),xgn)]) (Z:=(·=i)) (Ks:=[]) (ki:=fun _=>0) (Ss:=fun _ _=>False) (Rs:=fun _=>[]) hLx rfl (fun j kd hj=>by simp at hj) (fun j kd hj=>by simp at hj) (by simp) (fun j x hj=>by simp at hj) (fun j j' x r hj=>by simp at hj) (fun j kd hj=>by simp at hj) A w0 hA hA1 hn hm1 hm2 hx0 (by simp)
 | @node i g k pt L pl di ki Ss Rs Es h hk hs d1 d2 ih =>
  intro A w0 hA hA1 hn hm1 hm2 hx0
  obtain⟨⟨xis,⟨kn,cd,vl,xp,⟨ya,yn,yc⟩,⟨za,zn,zc⟩,xpl,xdi⟩,xgn⟩,hLx,_,_,hNx⟩:=hRel.live h
  obtain⟨_,_,_,_,hNI,_⟩:=hNx
  simp only at hNI
  obtain rfl:zn=L.length:=O.z1u hNI.z
  obtain rfl:xis=true:=hLx.2.2.1
  obtain rfl:xgn=g:=hLx.2.2.2
  exact below_walk Mine hMine (Ks:=L) (ki:=ki) (Ss:=Ss) (Rs:=Rs) hLx (.inl rfl) (fun j kd hj=>row_at hNI.z hj) hk rfl (fun j x hj hx=>⟨.inr ⟨j,hj,hx⟩,d1 j x hj hx⟩)
   (fun j j' x r hj hlt hx hr e=>by
    obtain⟨y,_,h1,h2,_⟩:=(hs j' _ (List.getElem?_eq_getElem (show j'<L.length by omega))).mem r hr
    have:x=y:=by omega
    subst this
    have:=d2 j j' x hj (by omega) hx h2
    omega)
   (fun j kd hj A w0 a1 a2 a3 a4 a5 a6=>ih j kd hj A w0 a1 (by rw[<- hk j kd hj];exact a2) a3 a4 a5 a6) A w0 hA hA1 hn hm1 hm2 hx0 hNI.room
end Go.Proofs.YtgdmfledhhoedaaGreatDoor.T
namespace Go.Burg
open Go Go.RowKit
def zeroP:PNd:=⟨.leaf ⟨#[]⟩ ⟨#[]⟩,false,false⟩
def freeP (P:List (Cel PNd)) (r:Int × Int):List (Cel PNd):=P.set r.1.toNat ⟨false,zeroP,r.2⟩
end Go.Burg
namespace Go.Proofs.YtgdmfledhhoedaaGreatDoor.T
set_option maxRecDepth 8000
open Go.ChangeShapes Go.WideShapes Go.ChangeAt Go.RowKit Go.Burg
open Go.Burg.Lk Go.Shelf
attribute [local go_sem] Oper.semAt_some
def rkOf (r:Int × Int):RefK:=if h:(Lit.int .i64 r.1).wf=true/\(Lit.int .u32 r.2).wf=true then ⟨r,h⟩ else ⟨(0,0),by decide⟩
theorem rkOf_eq {r:Int × Int} (h:(Lit.int .i64 r.1).wf=true/\(Lit.int .u32 r.2).wf=true):(rkOf r).1=r:=by unfold rkOf;rw[dif_pos h]
def freeC (l:List (Cel Nd)) (r:Int × Int):List (Cel Nd):=l.set r.1.toNat ⟨false,Nd.zero,r.2⟩
def goneC (L:List (RefK × Wd)) (r:Int × Int):List (RefK × Wd):=(K.goneL L (rkOf r)).2
theorem freeAll_get:∀ {pre:List (Int × Int)} {l:List (Cel Nd)} {x:Nat},(∀ r,r∈pre->0<=r.1/\r.1≠(x:Int))->(pre.foldl freeC l)[x]?=l[x]?
 | [],_,_,_=>rfl
 | r :: pre,l,x,h=>by
  rw[List.foldl_cons,freeAll_get (pre:=pre) (fun r' hr=>h r' (List.mem_cons_of_mem _ hr))]
  unfold freeC
  have:=h r (List.mem_cons_self ..)
  exact List.getElem?_set_ne (by omega)
theorem Rel.freed {w:World}:∀ {pre:List (Int × Int)} {l:List (Cel Nd)} {P:List (Cel PNd)},Rel w l P->Rel w (pre.foldl freeC l) (pre.foldl freeP P)
 | [],_,_,h=>h
 | r :: pre,l,P,h=>by
  rw[List.foldl_cons,List.foldl_cons]
  exact Rel.freed (Rel.set (q:=zeroP) (x:=Nd.zero) h false (fun e=>by cases e))
variable {A B wz:World}
theorem kept_cells {row:Option Nat} {base k:Nat} {o:Obj} (hg:A.grownBy B row) (hr:∀ r,row=some r->base<=r/\∃ o:Obj,A.heap[r]?=some o/\o.isCells=false) (h:A.heap[k]?=some o) (ho:o.isCells=true):B.heap[k]?=some o :=
 (hg.block k (lt_of_block h) (fun e=>by obtain⟨_,o2,h2,h3⟩:=hr k e.symm;rw[h] at h2;cases h2;rw[ho] at h3;cases h3)).trans h
structure FellS (w wl:World) (t sb sg kb km u i:Nat) (g:Int) (l:List (Cel Nd)) (L:List (RefK × Wd)) (tk:Int) (pre:List (Int × Int)) (W:World):Prop where
 b2:W.heap[u]?=some (.cells #[.pointer (some ⟨t,0,none⟩)] 25 (0,0))
 b3:W.heap[u+1]?=some (.cells #[.int .i64 i,.int .u32 g] 36 (0,0))
 ta:TreeAt W t sb sg kb km (pre.foldl freeC l) (pre.foldl goneC L) tk
 nb:W.heap[u+1+1]?=some (.cells #[.int .i64 (pre.length:Nat)] 3 (0,0))
 mod:Mod (TOwn sg km) w W
 sz:wl.heap.size<=W.heap.size
variable {g tk:Int} {l:List (Cel Nd)} {L:List (RefK × Wd)} {i kb km sb sg t:Nat}
theorem FellS.kept {w wl:World} {u:Nat} {pre:List (Int × Int)} (hs:FellS w wl t sb sg kb km u i g l L tk pre A) {row:Option Nat} (hg:A.grownBy B row)
 (hb:t<wl.heap.size/\sb<wl.heap.size/\sg<wl.heap.size/\kb<wl.heap.size/\km<wl.heap.size) (hu:u+1+1<wl.heap.size) (hw:w.heap.size<=wl.heap.size)
 (hr:∀ r,row=some r->wl.heap.size<=r):FellS w wl t sb sg kb km u i g l L tk pre B:=by
 have e:∀ (k:Nat) (o:Obj),k<wl.heap.size->A.heap[k]?=some o->B.heap[k]?=some o:=fun k o hk ho=>(hg.block k (lt_of_block ho) (fun e=>by have:=hr k e.symm;omega)).trans ho
 have hM:Mod (fun i=>row=some i) A B:=⟨hg.os,hg.tape,hg.output,hg.size,fun k hk hn=>hg.block k hk (fun e=>hn e.symm)⟩
 exact⟨e _ _ (by omega) hs.b2,e _ _ (by omega) hs.b3,hs.ta.mod hM (fun e=>by have:=hr _ e;omega) (fun e=>by have:=hr _ e;omega) (fun e=>by have:=hr _ e;omega) (fun e=>by have:=hr _ e;omega) (fun e=>by have:=hr _ e;omega),e _ _ hu hs.nb,hs.mod.trans hM (fun i hi h=>absurd (hr i h) (by omega)),Nat.le_trans hs.sz hg.size⟩
variable {P:List (Cel PNd)} {Z:Nat->Prop}
set_option maxRecDepth 100000 in
set_option maxHeartbeats 4000000 in
theorem Fell_trie {R:List (Int × Int)} {E:Ents} {q:PNd} (w:World) (h:z0s w t sb sg kb km P L tk) (hP:Post P i g Z R E) (hq:z0l P i g i q) (hp:q.planted=true) (hlen:P.length<=4096) (hg:GenOk P) :
 Calls Tryz.prog 47 #[.pointer (some ⟨t,0,none⟩),.agg #[.int .i64 i,.int .u32 g]] w fun e w'=>e=.returned (.tuple #[.int .i64 (R.length:Nat),.int .i64 0])/\z0s w' t sb sg kb km (R.foldl freeP P) (R.foldl goneC L) tk/\Mod (TOwn sg km) w w':=by
 obtain⟨l,hT0,hRel⟩:=h
 have hnr:=hT0.noRow
 obtain⟨c,hL,hcp,_⟩:=hRel.live hq
 rw[hp] at hcp
 have hwf:∀ r,r∈R->∃ (x:Nat) (cx:Cel Nd),r.1=(x:Int)/\Z x/\S.Live l r.1 r.2 x cx/\(rkOf r).1=r/\cx.gen=r.2:=fun r hr=>by
  obtain⟨x,qx,h1,h2,h3⟩:=hP.mem r hr
  obtain⟨cx,h4,_⟩:=hRel.live h3
  obtain⟨_,p,a1,a2,a3,_⟩:=h3
  have hx:=(List.getElem?_eq_some_iff.1 a1).1
  exact⟨x,cx,h1,h2,by rw[h1];exact h4,rkOf_eq (by rw[h1];exact rk_wf (by omega) (by rw[<- a3];exact hg.at a1) (by rw[<- a3];exact hg.le a1)),h4.2.2.2⟩
 have hRl:R.length<=4096:=by
  have h1:=hP.once
  have h2:(R.map (·.1.toNat)).Nodup:=by
   rw[List.Nodup,List.pairwise_map]
   rw[List.Nodup,List.pairwise_map] at h1
   refine h1.imp_of_mem ?_
   intro a b ha hb hab e
   obtain⟨x,_,e1,_⟩:=hwf a ha
   obtain⟨y,_,e2,_⟩:=hwf b hb
   rw[e1,e2] at e
   simp at e
   exact hab (by rw[e1,e2,e])
  have h3:(R.map (·.1.toNat)).length<=4096:=by
   have h4:(R.map (·.1.toNat)) ⊆ List.range 4096:=fun n hn=>by
    obtain⟨r,hr,rfl⟩:=List.mem_map.1 hn
    obtain⟨x,cx,e1,_,e3,_⟩:=hwf r hr
    have:=(List.getElem?_eq_some_iff.1 e3.2.1).1
    rw[hRel.len] at this
    rw[List.mem_range,e1]
    simp
    omega
   have:=List.Nodup.length_le_of_subset h2 h4
   simpa using this
  simpa using h3
 have hA:=((hT0.alloc (.cells #[.pointer (some ⟨t,0,none⟩)] 25 (0,0))).alloc (.cells #[.int .i64 i,.int .u32 g] 36 (0,0))).alloc (.cells #[.int .i64 0] 3 (0,0))
 have hs1:(w.alloc (.cells #[.pointer (some ⟨t,0,none⟩)] 25 (0,0))).heap.size=w.heap.size+1:=by simp
 have hs2:((w.alloc (.cells #[.pointer (some ⟨t,0,none⟩)] 25 (0,0))).alloc (.cells #[.int .i64 i,.int .u32 g] 36 (0,0))).heap.size=w.heap.size+2:=by simp
 have h2:=z0c (o':=(.cells #[.int .i64 0] 3 (0,0))) (z0c (o':=(.cells #[.int .i64 i,.int .u32 g] 36 (0,0))) (z0a w (.cells #[.pointer (some ⟨t,0,none⟩)] 25 (0,0))))
 have h3:=z0c (o':=(.cells #[.int .i64 0] 3 (0,0))) (z0a (w.alloc (.cells #[.pointer (some ⟨t,0,none⟩)] 25 (0,0))) (.cells #[.int .i64 i,.int .u32 g] 36 (0,0)))
 have h4:=z0a ((w.alloc (.cells #[.pointer (some ⟨t,0,none⟩)] 25 (0,0))).alloc (.cells #[.int .i64 i,.int .u32 g] 36 (0,0))) (.cells #[.int .i64 0] 3 (0,0))
 rw[hs1] at h3
 rw[hs2] at h4
 have hB:Below w.heap.size w (((w.alloc (.cells #[.pointer (some ⟨t,0,none⟩)] 25 (0,0))).alloc (.cells #[.int .i64 i,.int .u32 g] 36 (0,0))).alloc (.cells #[.int .i64 0] 3 (0,0))):=(((Below.refl _ _).alloc (Nat.le_refl _) _).alloc (by simp) _).alloc (by simp;omega) _
 have hlt:t<w.heap.size/\sb<w.heap.size/\sg<w.heap.size/\kb<w.heap.size/\km<w.heap.size:=⟨lt_of_block hT0.ht,hT0.hs.blt,hT0.hs.glt,hT0.hk.lt.1,hT0.hk.lt.2⟩
 have HLT:=hid hlt
 have HL:=hid hL
 have HP:=hid hcp
 have HREL:=hid hRel
 have HNR:=hid hnr
 have HWF:=hid hwf
 have HRL:=hid hRl
 have HPO:=hid hP
 clear hs1 hs2 hT0 hlt hL hcp hp hRel hnr hwf hRl hP hq hlen hg
 refine (callsIn_wide (n:=8)).1 ?_
 refine callsIn_of_wp_marks Tryz.func47 rfl trivial ?_ rfl
 refine wpIn_wide.2 ?_
 simp only[Tryz.ntmps47,List.size_toArray,List.length_cons,List.length_nil,Nat.reduceAdd,Nat.reduceSub,Array.replicate_succ,Array.replicate_zero,List.push_toArray,List.append_toArray,List.nil_append,List.cons_append]
 have hmf:=makeF Tryz.prog
 go_wp2_with fail
 generalize hW:(((w.alloc (.cells #[.pointer (some ⟨t,0,none⟩)] 25 (0,0))).alloc (.cells #[.int .i64 i,.int .u32 g] 36 (0,0))).alloc (.cells #[.int .i64 0] 3 (0,0)))=W at *
 generalize hU:w.heap.size=u at *
 have HA:=hid hA
 have H2:=hid h2
 have H3:=hid h3
 have H4:=hid h4
 have HB:=hid hB
 have HU:=hid hU
 have k0:=cell_of h2 0
 have TM:=hid (tmade_at W HA.out.ht)
 clear hW hA h2 h3 h4 hB hU
 have HPL:Hid (∀ w1,Below W.heap.size W w1->Calls Tryz.prog 37 #[.pointer (some ⟨t,0,none⟩),.agg #[.int .i64 i,.int .u32 g]] w1 fun e w'=>e=.returned (.bool true)/\Below w1.heap.size w1 w'):=hid fun w1 hw1=>by
  have:=planted_at i g w1 (HA.out.keep hw1) HL.out
  rw[HP.out] at this
  exact this
 refine TM.out.mono ?_
 rintro e w1 ⟨rfl,rfl⟩
 clear TM
 go_wp2_with fail
 clear k0
 refine z0g 7 (fun w1=>Below (W).heap.size (W) w1) (by kernel_rfl) (by kernel_rfl) (by kernel_rfl) ⟨rfl,rfl,rfl,Nat.le_refl _,fun _ _=>rfl⟩ ?_
 dsimp only[List.take]
 iterate 7
  refine Seq.cons (a':=?_) ?_ ?_ ?_
  rotate_left
  ·intro w1 hw1
   have k0:=cell_of (z0b H2.out hw1 (lt_of_block H2.out)) 0;have k1:=cell_of (z0b H3.out hw1 (lt_of_block H3.out)) 0;have k2:=cell_of (z0b H3.out hw1 (lt_of_block H3.out)) 1
   go_wp2_with (go_at_call 37;refine (HPL.out _ hw1).mono ?_;rintro e w' ⟨rfl,hb⟩)
   refine⟨?_,by first|assumption|(simpa using z0d hw1 hb hw1.size)⟩
   exact rfl
  ·kernel_rfl
 refine SeqI.nil ?_
 intro _ w1 _ hw1
 dsimp only[List.drop]
 have HA1:=hid (((HA.out.keep hw1).alloc (.cells #[.pointer (some ⟨t,0,none⟩)] 25 (0,0))).alloc (.cells #[.int .i64 i,.int .u32 g] 36 (0,0)))
 have h2:=z0b H2.out hw1 (lt_of_block H2.out)
 have h3:=z0b H3.out hw1 (lt_of_block H3.out)
 have h4:=z0b H4.out hw1 (lt_of_block H4.out)
 have k0:=cell_of h2 0
 have k1:=cell_of h3 0
 have k2:=cell_of h3 1
 have HB1:Hid (Below w.heap.size w w1):=hid (by have h:=HB.out;rw[<- HU.out] at h;exact h.trans (hw1.mono h.size))
 have hlu:=lt_of_block h4
 have H2:=hid (z0c (o':=(.cells #[.int .i64 i,.int .u32 g] 36 (0,0))) (z0c (o':=(.cells #[.pointer (some ⟨t,0,none⟩)] 25 (0,0))) h2))
 have H3:=hid (z0c (o':=(.cells #[.int .i64 i,.int .u32 g] 36 (0,0))) (z0c (o':=(.cells #[.pointer (some ⟨t,0,none⟩)] 25 (0,0))) h3))
 have H4:=hid (z0c (o':=(.cells #[.int .i64 i,.int .u32 g] 36 (0,0))) (z0c (o':=(.cells #[.pointer (some ⟨t,0,none⟩)] 25 (0,0))) h4))
 clear hw1 h2 h3 h4 HA HPL HB
 go_wp2_with fail
 refine (below_at i g _).mono ?_
 rintro e w2 ⟨rfl,rfl⟩
 clear k0 k1 k2
 go_wp2_with fail
 have kB:((w1.alloc (.cells #[.pointer (some ⟨t,0,none⟩)] 25 (0,0))).alloc (.cells #[.int .i64 i,.int .u32 g] 36 (0,0))).heap[w1.heap.size]?=some (.cells #[.pointer (some ⟨t,0,none⟩)] 25 (0,0)):=z0c (z0a _ _)
 have kB1:((w1.alloc (.cells #[.pointer (some ⟨t,0,none⟩)] 25 (0,0))).alloc (.cells #[.int .i64 i,.int .u32 g] 36 (0,0))).heap[w1.heap.size+1]?=some (.cells #[.int .i64 i,.int .u32 g] 36 (0,0)):=by
  have:=z0a (w1.alloc (.cells #[.pointer (some ⟨t,0,none⟩)] 25 (0,0))) (.cells #[.int .i64 i,.int .u32 g] 36 (0,0))
  simpa using this
 have hsl:((w1.alloc (.cells #[.pointer (some ⟨t,0,none⟩)] 25 (0,0))).alloc (.cells #[.int .i64 i,.int .u32 g] 36 (0,0))).heap.size=w1.heap.size+2:=by simp
 have hBl:Below w.heap.size w ((w1.alloc (.cells #[.pointer (some ⟨t,0,none⟩)] 25 (0,0))).alloc (.cells #[.int .i64 i,.int .u32 g] 36 (0,0))):=(HB1.out.alloc HB1.out.size _).alloc (by have:=HB1.out.size;simp;omega) _
 generalize ((w1.alloc (.cells #[.pointer (some ⟨t,0,none⟩)] 25 (0,0))).alloc (.cells #[.int .i64 i,.int .u32 g] 36 (0,0)))=Wl at *
 generalize w1.heap.size=H at *
 have hus:=HU.out
 have HBl:=hid hBl
 have HLW:Hid (t<Wl.heap.size/\sb<Wl.heap.size/\sg<Wl.heap.size/\kb<Wl.heap.size/\km<Wl.heap.size):=hid (by have:=HLT.out;have:=hBl.size;omega)
 have HUW:Hid (u+1+1<Wl.heap.size):=hid (lt_of_block H4.out)
 have HNE:Hid (¬ TOwn sg km u/\¬ TOwn sg km (u+1)/\¬ TOwn sg km (u+1+1)):=hid (by have:=HLT.out;exact⟨by rintro (e|e)<;>omega,by rintro (e|e)<;>omega,by rintro (e|e)<;>omega⟩)
 have h0:FellS w Wl t sb sg kb km u i g l L tk [] Wl:=⟨H2.out,H3.out,HA1.out,H4.out,Mod.z0j hBl,Nat.le_refl _⟩
 have HH0:=hid (And.intro h0 (List.nil_prefix (l:=R)))
 have hnH:∀ k,TOwn sg km k\/k=u+1+1->k<H:=fun k hk=>by have:=HLT.out;rcases hk with (e|e)|e<;>omega
 let Mine:World->Nat->Prop:=fun W k=>(TOwn sg km k\/k=u+1+1)/\k<W.heap.size
 have hMine:MineX H Mine (fun _=>True):=MineOk.x ⟨fun hn _ _ h=>⟨h.1,by have:=hnH _ h.1;omega⟩⟩ (fun W k h=>h.2)
 have hC:∀ pre W1,(FellS w Wl t sb sg kb km u i g l L tk pre W1/\pre <+: R)->BelC (fun _=>True) w l Z t sb sg kb km pre W1:=fun pre W1 h =>
  ⟨⟨_,_,_,h.1.ta,fun x _ hn=>freeAll_get fun r hr=>⟨by obtain⟨y,_,e,_⟩:=HWF.out r (h.2.subset hr);omega,hn r hr⟩⟩,fun k cs fr hk=>(h.1.mod.block k (lt_of_block hk) (fun ho=>(HNR.out k ho _ _ _ hk).2 rfl)).trans hk,trivial⟩
 have hso:SeqOwnC (BelC (fun _=>True) w l Z t sb sg kb km) Mine Tryz.prog 107 #[.pointer (some ⟨H,0,none⟩),.pointer (some ⟨(H+1),0,none⟩)] encR H (fun xs=>xs=R) (fun pre=>pre <+: R) Wl :=
  below_own HREL.out Mine hMine HPO.out H Wl kB kB1 (Nat.le_refl _) (fun h=>by have:=hnH _ h.1;omega) (fun h=>by have:=hnH _ h.1;omega) trivial
 have HSO:=hid hso
 have HCC:=hid hC
 have HNH:=hid hnH
 have HHS:=hid hsl
 clear h0 kB kB1 hBl hsl hus H2 H3 H4 HB1 hso hC hnH
 refine wpIn_wide.1 (range_ownC (n:=8) (by decide) (gf:=107) (lb:=#[.pointer (some ⟨H,0,none⟩),.pointer (some ⟨(H+1),0,none⟩)]) rfl (enters_of Tryz.func107 (by kernel_rfl) rfl) Mine hMine (BelC (fun _=>True) w l Z t sb sg kb km) (fun _ _ _=>trivial) HSO.out (by have:=HHS.out;omega) (fun _ h=>h.2) (Below.refl _ _) (fun _=>rfl)
  (fun pre W=>FellS w Wl t sb sg kb km u i g l L tk pre W/\pre <+: R) (fun _ _=>False)
  (fun pre A B row hs hg hr=>⟨hs.1.kept hg HLW.out HUW.out HBl.out.size (fun r e=>(hr r e).1),hs.2⟩) (ownFrom_pure _ _) HCC.out HH0.out
  (fun x a' W=>∃ Bx,Wl.heap.size<=Bx/\W.heap[Bx]?=some (.cells #[.int .i64 x.1,.int .u32 x.2] 36 (0,0))/\a'={ tmps:=#[.pointer (some ⟨t,0,none⟩),.agg #[.int .i64 i,.int .u32 g],.pointer (some ⟨u,0,none⟩),.pointer (some ⟨u+1,0,none⟩),.pointer (some ⟨u+1+1,0,none⟩),.int .i64 0,.pointer (some ⟨Bx,0,none⟩),.bool false,.pointer (some ⟨t,0,none⟩),.bool true,.bool false,.bool false,.pointer (some ⟨t,0,none⟩),.pointer (some ⟨t,0,none⟩),.pointer (some ⟨t,0,none⟩),.agg #[.int .i64 i,.int .u32 g],.bool true,.bool false,.pointer (some ⟨t,0,none⟩),.agg #[.int .i64 i,.int .u32 g],.func (.func 107) #[] #[.pointer (some ⟨H,0,none⟩),.pointer (some ⟨H+1,0,none⟩)],.agg #[.int .i64 x.1,.int .u32 x.2],undef,undef,undef,undef,undef,undef,undef,undef],defers:=[] })
  (fun x a' _ A B row hs hg hr=>by obtain⟨Bx,h1,h2,h3⟩:=hs;exact⟨Bx,h1,kept_cells hg hr h2 rfl,h3⟩)
  ?assign ?body ?done ?stop)
 case assign =>
  intro L0 pre x W K hI hK
  unfold encR
  gi_wp2_with fail
  refine hK _ _ ((KeepsOthers.alloc _ _).from _) (hMine.below trivial (by have:=HHS.out;have:=hI.1.sz;omega) ((Below.refl _ _).alloc (Nat.le_refl _) _)) ⟨hI.1.kept (World.grownBy_alloc W _ none) HLW.out HUW.out HBl.out.size (fun r e=>by cases e),hI.2⟩ ⟨W.heap.size,hI.1.sz,z0a _ _,?_⟩
  rfl
 case body =>
  rintro L0 pre x a' W hL0 _ ⟨hF,hpr⟩ ⟨Bx,hBx,hX,rfl⟩ hlen
  have hxR:x∈R:=hlen.subset (by simp)
  obtain⟨xi,cx,e1,e2,hLX,hrk,hgx⟩:=HWF.out x hxR
  have hnd:((pre++[x]).map (·.1)).Nodup:=HPO.out.once.sublist (hlen.sublist.map _)
  have hxp:∀ r,r∈pre->0<=r.1/\r.1≠(xi:Int):=fun r hr=>by
   obtain⟨y,_,e,_⟩:=HWF.out r (hpr.subset hr)
   refine⟨by omega,fun e'=>?_⟩
   rw[List.map_append,List.nodup_append] at hnd
   exact hnd.2.2 r.1 (List.mem_map.2 ⟨r,hr,rfl⟩) x.1 (by simp) (by rw[e',e1])
  have hLX:S.Live (pre.foldl freeC l) x.1 x.2 xi cx:=⟨hLX.1,(freeAll_get hxp).trans hLX.2.1,hLX.2.2⟩
  have hpl:pre.length+1<=4096:=by
   have:=hlen.length_le
   have:=HRL.out
   simp at *
   omega
  have hfc:(pre++[x]).foldl freeC l=(pre.foldl freeC l).set xi ⟨false,Nd.zero,cx.gen⟩:=by
   rw[List.foldl_append]
   simp only[List.foldl_cons,List.foldl_nil]
   unfold freeC
   rw[e1,hgx]
   rfl
  have hgc:(pre++[x]).foldl goneC L=(K.goneL (pre.foldl goneC L) (rkOf x)).2:=by
   rw[List.foldl_append]
   rfl
  have HT:=hid hF.ta
  have HF:=hid hF
  have H4:=hid hF.nb
  have HX:=hid hX
  have HFC:=hid hfc
  have HGC:=hid hgc
  have HLX:=hid hLX
  have HRK:Hid ((rkOf x).1.1=x.1/\(rkOf x).1.2=x.2):=hid (by rw[hrk];exact⟨rfl,rfl⟩)
  have HPLE:=hid hpl
  have HLEN:=hid hlen
  have hnb:¬ TOwn sg km Bx:=by have:=HLW.out;rintro (e|e)<;>omega
  obtain⟨hn1,hn2,hn3⟩:=HNE.out
  clear hF hX hfc hgc hLX hlen hxp hnd hrk hgx hpr hxR e1 e2
  gi_wp2_with fail
  refine rgn_seqI (fok_round _ _) (by kernel_rfl) 5 (Turn 4 (fun w1=>Mod (TOwn sg km) W w1/\TreeAt w1 t sb sg kb km (pre.foldl freeC l) (pre.foldl goneC L) tk) (fun w1=>Mod (TOwn sg km) W w1/\TreeAt w1 t sb sg kb km ((pre.foldl freeC l).set xi ⟨false,Nd.zero,cx.gen⟩) (K.goneL (pre.foldl goneC L) (rkOf x)).2 tk)) (by kernel_rfl) (by kernel_rfl) (by kernel_rfl) (Turn.start ⟨(Mod.refl (TOwn sg km) W).drew,HT.out.keep ((Below.refl _ _).drew)⟩) ?_
  dsimp only[List.take]
  iterate 4
   refine Seq.calm (a':=?_) (by decide) ?_ ?_ ?_
   rotate_left
   ·intro w1 hw1
    have hM:Mod (TOwn sg km) W w1:=hw1.elim (·.1) (·.1)
    have k2:=cell_of ((hM.block u (lt_of_block HF.out.b2) hn1).trans HF.out.b2) 0
    have x0:=cell_of ((hM.block Bx (lt_of_block HX.out) hnb).trans HX.out) 0
    have x1:=cell_of ((hM.block Bx (lt_of_block HX.out) hnb).trans HX.out) 1
    clear hM hw1
    go_wp2_with (fail)
    refine⟨?_,id,id⟩;exact rfl
   ·kernel_rfl
  refine Seq.turn (a':=?_) ?_ ?_ ?_
  rotate_left
  ·intro w1 hw1
   have HM:=hid hw1.1
   have HT1:=hid hw1.2
   clear hw1
   go_wp2_with (go_at_call 86;refine (pfree_at x.1 x.2 _ HT1.out HLX.out (rkOf x) HRK.out.1 HRK.out.2).mono ?_;rintro e w2 ⟨rfl,hT2,hX2⟩)
   refine⟨?_,HM.out.trans hX2 (fun _ _ h=>h),hT2⟩
   exact rfl
  ·kernel_rfl
  iterate 0
   refine Seq.calm (a':=?_) (by decide) ?_ ?_ ?_
   rotate_left
   ·intro w1 hw1
    have hM:Mod (TOwn sg km) W w1:=hw1.elim (·.1) (·.1)
    have k2:=cell_of ((hM.block u (lt_of_block HF.out.b2) hn1).trans HF.out.b2) 0
    have x0:=cell_of ((hM.block Bx (lt_of_block HX.out) hnb).trans HX.out) 0
    have x1:=cell_of ((hM.block Bx (lt_of_block HX.out) hnb).trans HX.out) 1
    clear hM hw1
    go_wp2_with (fail)
    refine⟨?_,id,id⟩;exact rfl
   ·kernel_rfl
  refine SeqI.nil ?_
  intro D w1 hD hI
  replace hI:=hI.done (hD 4 (by omega))
  clear hD
  dsimp only[List.drop]
  obtain⟨hM1,hT1⟩:=hI
  have h41:=(hM1.block _ (lt_of_block H4.out) hn3).trans H4.out
  have k4:=cell_of h41 0
  have f4:=z0e h41
  have H41:=hid h41
  have HM1:=hid hM1
  have HT1:=hid hT1
  clear h41 hM1 hT1
  go_wp2_with fail
  gi_wp2_with fail
  have hve:(Value.int .i64 ((pre++[x]).length:Nat))=.int .i64 ((pre.length:Int)+1):=by simp
  rw[<- hve]
  generalize hvl:(Value.int .i64 ((pre++[x]).length:Nat))=vl
  have hMf:Mod (fun j=>TOwn sg km j\/j=u+1+1) W (w1.setCell ⟨u+1+1,0,none⟩ vl):=Mod.setCell (S:=fun j=>TOwn sg km j\/j=u+1+1) (p:=⟨u+1+1,0,none⟩) (HM1.out.mono fun _ _ h=>.inl h) (.inl (.inr rfl)) _
  have hMs:=Mod.setCell (S:=(·=u+1+1)) (p:=⟨u+1+1,0,none⟩) (Mod.refl _ w1) (.inl rfl) vl
  have hus:=HU.out
  have hlt:=HLT.out
  have hlw:=HLW.out
  have huw:=HUW.out
  have hnh:=HNH.out
  refine⟨⟨hMf.size,fun k o hk ho _=>(hMf.block k (lt_of_block ho) (by rintro ((e|e)|e)<;>omega)).trans ho⟩,⟨hMf.size,fun k o hk _ ho _=>(hMf.block k (lt_of_block ho) (fun h=>by have:=hnh k h;omega)).trans ho,fun k h=>.inl ⟨h.1,by have:=hnh k h.1;have:=HF.out.sz;have:=HHS.out;omega⟩⟩,⟨?_,?_,?_,?_,?_,Nat.le_trans HF.out.sz hMf.size⟩,HLEN.out⟩
  ·exact (hMf.block u (lt_of_block HF.out.b2) (fun h=>h.elim hn1 (fun e=>by omega))).trans HF.out.b2
  ·exact (hMf.block (u+1) (lt_of_block HF.out.b3) (fun h=>h.elim hn2 (fun e=>by omega))).trans HF.out.b3
  ·rw[HFC.out,HGC.out]
   exact HT1.out.mod hMs (by omega) (by omega) (by omega) (by omega) (by omega)
  ·rw[hvl]
   simpa using heap_set (i:=0) (v:=vl) H41.out
  ·exact HF.out.mod.trans hMf (fun j hj h=>h.elim id (fun e=>by omega))
 case done =>
  rintro D ys W hD rfl ⟨hF,_⟩ hK
  have h4:=hF.nb
  have hT:=hF.ta
  have k4:=cell_of h4 0
  have f4:=z0e h4
  have HF:=hid hF
  have HT:=hid hT
  have HKK:=hid hK
  clear hF hT h4 hK
  go_wp2_with fail
  have hK':=(KeepsOthers.setCell W ⟨u+1+1,0,none⟩ (.int .i64 (ys.length:Nat))).same D _ HKK.out rfl
  refine⟨by simp,.inl ⟨_,_,rfl,run_takeDeferred hK',?_⟩⟩
  generalize hvv:(Value.int .i64 (ys.length:Nat))=vv at *
  have hc5:=cell_kept (World.cell?_setCell_same' W ⟨u+1+1,0,none⟩ vv (by rw[k4];rfl)) (grownBy_putObj' _ D (.deferred none)) (fun r e=>by cases e;exact⟨_,hK',rfl⟩)
  have hus:=HU.out
  have hlt:=HLT.out
  have hlw:=HLW.out
  have huw:=HUW.out
  have hg:=grownBy_putObj' (W.setCell ⟨u+1+1,0,none⟩ vv) D (.deferred none)
  have hMs:=Mod.setCell (S:=(·=u+1+1)) (p:=⟨u+1+1,0,none⟩) (Mod.refl _ W) (.inl rfl) vv
  have hMd:Mod (fun j=>some D=some j) (W.setCell ⟨u+1+1,0,none⟩ vv) ((W.setCell ⟨u+1+1,0,none⟩ vv).putObj D (.deferred none)):=⟨hg.os,hg.tape,hg.output,hg.size,fun k hk hn=>hg.block k hk (fun e=>hn e.symm)⟩
  have hMa:Mod (fun j=>j=u+1+1\/j=D) W ((W.setCell ⟨u+1+1,0,none⟩ vv).putObj D (.deferred none)):=(hMs.mono fun _ _ h=>.inl h).trans hMd (fun j _ e=>.inr (by simpa using e.symm))
  have hMt:=HF.out.mod.trans hMa (fun j hj e=>by omega)
  refine⟨.tuple #[vv,.int .i64 0],?_,rfl,⟨_,HT.out.mod hMa (by omega) (by omega) (by omega) (by omega) (by omega),(Rel.freed HREL.out).mod hMt HNR.out⟩,hMt⟩
  simp[results,Tryz.results47,go_sem,hc5]
 case stop =>
  rintro D pre W hD hp h _
  exact absurd h id
attribute [local go_sem] Oper.semAt_some
theorem pAll_at (slot gen:Int) (w:World) :
 Calls Tryz.prog 44 #[.pointer (some ⟨t,0,none⟩),.agg #[.int .i64 slot,.int .u32 gen]] w fun e w'=>e=.returned (.func (.func 84) #[] #[.pointer (some ⟨w.heap.size,0,none⟩),.pointer (some ⟨(w.heap.size+1),0,none⟩)])/\w'=(w.alloc (.cells #[.pointer (some ⟨t,0,none⟩)] 25 (0,0))).alloc (.cells #[.int .i64 slot,.int .u32 gen] 36 (0,0)):=by
 have hmf:=makeF Tryz.prog
 go_enter Tryz.func44,Tryz.ntmps44
 go_wp2_with fail
 go_ret
 exact⟨rfl,rfl⟩
def encE (e:ByteArray × ByteArray):Array Value:=#[.string e.1,.string e.2]
structure AllC (X:World->Prop) (wz:World) (l:List (Cel Nd)) (Z:Nat->Prop) (t sb sg kb km:Nat) (W:World):Prop where
 t:∃ l' L' tk',TreeAt W t sb sg kb km l' L' tk'/\∀ x,Z x->l'[x]?=l[x]?
 r:∀ (k:Nat) (cs:Array Value) (fr:Nat × Nat),wz.heap[k]?=some (.cells cs 36 fr)->W.heap[k]?=some (.cells cs 36 fr)
 x:X W
theorem AllC.bel {X:World->Prop} {W:World} (h:AllC X wz l Z t sb sg kb km W) (pre:List (Int × Int)):BelC X wz l Z t sb sg kb km pre W :=
 ⟨by obtain⟨l',L',tk',a,b⟩:=h.t;exact⟨l',L',tk',a,fun x hx _=>b x hx⟩,h.r,h.x⟩
theorem prefix_fm {α β:Type} (f:α->Option β) {a b:List α} (h:a <+: b):a.filterMap f <+: b.filterMap f:=by
 obtain⟨c,rfl⟩:=h
 rw[List.filterMap_append]
 exact List.prefix_append _ _
set_option maxRecDepth 100000 in
set_option maxHeartbeats 8000000 in
theorem all_own {n₀:Nat} (hRel:Rel wz l P) (Mine:World->Nat->Prop) {X:World->Prop} (hMine:MineX n₀ Mine X)
 {i:Nat} {g:Int} {Z:Nat->Prop} {R:List (Int × Int)} {E:Ents} {q:PNd} (hP:Post P i g Z R E) (hq:z0l P i g i q) (hp:q.planted=true)
 (A:Nat) (w0:World) (hA:w0.heap[A]?=some (.cells #[.pointer (some ⟨t,0,none⟩)] 25 (0,0))) (hA1:w0.heap[A+1]?=some (.cells #[.int .i64 i,.int .u32 g] 36 (0,0))) (hn:n₀<=A) (hm1:¬ Mine w0 A) (hm2:¬ Mine w0 (A+1)) (hx0:X w0) :
 SeqOwnC (fun _ W=>AllC X wz l Z t sb sg kb km W) Mine Tryz.prog 84 #[.pointer (some ⟨A,0,none⟩),.pointer (some ⟨(A+1),0,none⟩)] encE n₀ (fun xs=>xs=E) (fun pre=>pre <+: E) w0:=by
 intro LL J Jx W hW hml hJ hJx hC hY h0
 have hb1:=z0b hA hW (lt_of_block hA)
 have hb2:=z0b hA1 hW (lt_of_block hA1)
 have hlA:=lt_of_block hA1
 have hm1W:=hMine.priv hx0 (by omega) hm1 hW
 have hm2W:=hMine.priv hx0 (by omega) hm2 hW
 have hxW:=(hC _ _ h0).x
 have HA:=hid (z0c (o':=(.cells #[.func (.yield LL) #[] #[]] 121 (0,0))) hb1)
 have HA1:=hid (z0c (o':=(.cells #[.func (.yield LL) #[] #[]] 121 (0,0))) hb2)
 have HX:=hid (z0a W (.cells #[.func (.yield LL) #[] #[]] 121 (0,0)))
 have hBW:Below W.heap.size W (W.alloc (.cells #[.func (.yield LL) #[] #[]] 121 (0,0))):=(Below.refl _ _).alloc (Nat.le_refl _) _
 have hsz:=hW.size
 obtain⟨c,hL,hcp,_⟩:=hRel.live hq
 obtain⟨l',L',tk',hT,hlx⟩:=(hC _ _ h0).t
 have hL':S.Live l' i g i c:=⟨hL.1,(hlx i hP.self).trans hL.2.1,hL.2.2⟩
 rw[hp] at hcp
 have hT:=hT.keep hBW
 have HY:=hid hY
 have HC:=hid hC
 have HP:=hid hP
 have HREL:=hid hRel
 have HJ0:=hid (own_below hJ h0 hBW)
 have HM:Hid (¬ Mine (W.alloc (.cells #[.func (.yield LL) #[] #[]] 121 (0,0))) A/\¬ Mine (W.alloc (.cells #[.func (.yield LL) #[] #[]] 121 (0,0))) (A+1)/\¬ Mine (W.alloc (.cells #[.func (.yield LL) #[] #[]] 121 (0,0))) W.heap.size):=hid ⟨hMine.priv hxW (by omega) hm1W hBW,hMine.priv hxW (by omega) hm2W hBW,hMine.priv hxW (by omega) (fun h=>absurd (hml _ h) (Nat.lt_irrefl _)) hBW⟩
 have HXB:=hid (hMine.xb hxW (by omega) hBW)
 clear hA hA1 hW hb1 hb2 hY h0 hm1 hm2 hm1W hm2W hlx hC hml hP hRel hL hq hp hx0 hxW
 refine (callsIn_wide (n:=8)).1 ?_
 refine callsIn_of_wp_marks Tryz.func84 rfl trivial ?_ rfl
 refine wpIn_wide.2 ?_
 simp only[Tryz.ntmps84,List.size_toArray,List.length_cons,List.length_nil,Nat.reduceAdd,Nat.reduceSub,Array.replicate_succ,Array.replicate_zero,List.push_toArray,List.append_toArray,List.nil_append,List.cons_append]
 go_wp2_with fail
 generalize hWb:W.alloc (.cells #[.func (.yield LL) #[] #[]] 121 (0,0))=Wb at *
 generalize hU:W.heap.size=U at *
 have HT:=hid (fun (w1:World) (hw1:Below Wb.heap.size Wb w1)=>planted_at i g w1 (hT.keep hw1) hL')
 have HTM:=hid (fun (w1:World) (hw1:Below Wb.heap.size Wb w1)=>tmade_at w1 (hT.keep hw1).ht)
 rw[hcp] at HT
 have HBW:=hid hBW
 clear hT hL' hBW hcp
 refine z0g 11 (fun w1=>Below (Wb).heap.size (Wb) w1) (by kernel_rfl) (by kernel_rfl) (by kernel_rfl) ⟨rfl,rfl,rfl,Nat.le_refl _,fun _ _=>rfl⟩ ?_
 dsimp only[List.take]
 iterate 11
  refine Seq.cons (a':=?_) ?_ ?_ ?_
  rotate_left
  ·intro w1 hw1
   have a0:=cell_of (z0b HA.out hw1 (lt_of_block HA.out)) 0;have a1:=cell_of (z0b HA1.out hw1 (lt_of_block HA1.out)) 0;have a2:=cell_of (z0b HA1.out hw1 (lt_of_block HA1.out)) 1
   go_wp2_with ((first|(go_at_call 56;refine (HTM.out _ hw1).mono ?_;rintro e w' ⟨rfl,rfl⟩)|(go_at_call 37;refine (HT.out _ hw1).mono ?_;rintro e w' ⟨rfl,hb⟩)))
   refine⟨?_,by first|assumption|(simpa using z0d hw1 hb hw1.size)⟩
   exact rfl
  ·kernel_rfl
 refine SeqI.nil ?_
 intro _ w1 _ hw1
 dsimp only[List.drop]
 have HJ1:=hid (own_below hJ HJ0.out hw1)
 have k1:=z0b HA.out hw1 (lt_of_block HA.out)
 have k2:=z0b HA1.out hw1 (lt_of_block HA1.out)
 have kx:=z0b HX.out hw1 (lt_of_block HX.out)
 have hWbs:U<Wb.heap.size:=lt_of_block HX.out
 have hw1s:=hw1.size
 have HM1:Hid (¬ Mine w1 A/\¬ Mine w1 (A+1)/\¬ Mine w1 U):=hid ⟨hMine.priv HXB.out (by omega) HM.out.1 hw1,hMine.priv HXB.out (by omega) HM.out.2.1 hw1,hMine.priv HXB.out (by omega) HM.out.2.2 hw1⟩
 have hx1:=hMine.xb HXB.out (by omega) hw1
 have HBW1:=hid (z0d HBW.out hw1 (by omega))
 have a0:=cell_of k1 0
 have a1:=cell_of k2 0
 have a2:=cell_of k2 1
 clear hw1 HJ0 HA HA1 HX HT HM HBW HTM
 go_wp2_with fail
 refine (below_at i g _).mono ?_
 rintro e w2 ⟨rfl,rfl⟩
 clear a0 a1 a2
 go_wp2_with fail
 have kB:((w1.alloc (.cells #[.pointer (some ⟨t,0,none⟩)] 25 (0,0))).alloc (.cells #[.int .i64 i,.int .u32 g] 36 (0,0))).heap[w1.heap.size]?=some (.cells #[.pointer (some ⟨t,0,none⟩)] 25 (0,0)):=z0c (z0a _ _)
 have kB1:((w1.alloc (.cells #[.pointer (some ⟨t,0,none⟩)] 25 (0,0))).alloc (.cells #[.int .i64 i,.int .u32 g] 36 (0,0))).heap[w1.heap.size+1]?=some (.cells #[.int .i64 i,.int .u32 g] 36 (0,0)):=by
  have:=z0a (w1.alloc (.cells #[.pointer (some ⟨t,0,none⟩)] 25 (0,0))) (.cells #[.int .i64 i,.int .u32 g] 36 (0,0))
  simpa using this
 have hsl:((w1.alloc (.cells #[.pointer (some ⟨t,0,none⟩)] 25 (0,0))).alloc (.cells #[.int .i64 i,.int .u32 g] 36 (0,0))).heap.size=w1.heap.size+2:=by simp
 have hbl:Below w1.heap.size w1 ((w1.alloc (.cells #[.pointer (some ⟨t,0,none⟩)] 25 (0,0))).alloc (.cells #[.int .i64 i,.int .u32 g] 36 (0,0))):=((Below.refl _ _).alloc (Nat.le_refl _) _).alloc (by simp) _
 generalize ((w1.alloc (.cells #[.pointer (some ⟨t,0,none⟩)] 25 (0,0))).alloc (.cells #[.int .i64 i,.int .u32 g] 36 (0,0)))=Wl at *
 have hJl:=own_below hJ HJ1.out hbl
 have c1:=(hbl.block _ (lt_of_block k1)).trans k1
 have c2:=(hbl.block _ (lt_of_block k2)).trans k2
 have cx:=(hbl.block _ (lt_of_block kx)).trans kx
 have hnw:n₀<=w1.heap.size:=by omega
 have hml:¬ Mine Wl A/\¬ Mine Wl (A+1)/\¬ Mine Wl U:=⟨hMine.priv hx1 hnw HM1.out.1 hbl,hMine.priv hx1 hnw HM1.out.2.1 hbl,hMine.priv hx1 hnw HM1.out.2.2 hbl⟩
 have hnm:∀ k,w1.heap.size<=k->¬ Mine Wl k:=fun k hk hm=>by
  have h1:=hMine.lt hx1 (hMine.grow hx1 hnw (z0w hbl) (fun r e=>by cases e) hm)
  omega
 have hxl:=hMine.xb hx1 hnw hbl
 have hUH:=lt_of_block kx
 generalize w1.heap.size=H at *
 have hso:SeqOwnC (BelC X wz l Z t sb sg kb km) Mine Tryz.prog 107 #[.pointer (some ⟨H,0,none⟩),.pointer (some ⟨(H+1),0,none⟩)] encR n₀ (fun xs=>xs=R) (fun pre=>pre <+: R) Wl :=
  below_own HREL.out Mine hMine HP.out H Wl kB kB1 (by omega) (hnm _ (Nat.le_refl _)) (hnm _ (by omega)) hxl
 have hI:OwnFrom Wl.heap.size (fun (pre:List (Int × Int)) W=>J (pre.filterMap (leafAt P)) W/\(W.heap[A]?=some (.cells #[.pointer (some ⟨t,0,none⟩)] 25 (0,0))/\W.heap[A+1]?=some (.cells #[.int .i64 i,.int .u32 g] 36 (0,0))/\W.heap[U]?=some (.cells #[.func (.yield LL) #[] #[]] 121 (0,0)))/\(¬ Mine W A/\¬ Mine W (A+1)/\¬ Mine W U)/\pre <+: R):=by
  intro s A' C row hs hg hr
  have e:∀ (k:Nat),k<Wl.heap.size->k<A'.heap.size->C.heap[k]?=A'.heap[k]?:=fun k hk hA=>hg.block k hA (fun e=>by have:=(hr k e.symm).1;omega)
  obtain⟨h1,⟨c1',c2',c3'⟩,⟨m1,m2,m3⟩,h4⟩:=hs
  have hnA:n₀<=A'.heap.size:=by have:=lt_of_block c1';omega
  have gm:∀ k,Mine C k->Mine A' k:=fun k=>hMine.grow (HC.out _ _ h1).x hnA hg (fun r e=>⟨by have:=(hr r e).1;omega,(hr r e).2⟩)
  exact⟨hJ _ A' C row h1 hg (fun r e=>⟨by have:=(hr r e).1;omega,(hr r e).2⟩),⟨(e _ (by omega) (lt_of_block c1')).trans c1',(e _ (by omega) (lt_of_block c2')).trans c2',(e _ (by omega) (lt_of_block c3')).trans c3'⟩,⟨fun h=>m1 (gm _ h),fun h=>m2 (gm _ h),fun h=>m3 (gm _ h)⟩,h4⟩
 have hX:OwnFrom Wl.heap.size (fun (pre:List (Int × Int)) W=>Jx (pre.filterMap (leafAt P)) W):=fun s A' C row hs hg hr=>hJx _ A' C row hs hg (fun r e=>⟨by have:=(hr r e).1;omega,(hr r e).2⟩)
 have HI:=hid hI
 have HX:=hid hX
 have HSO:=hid hso
 have HJX:=hid hJx
 have HJo:=hid hJ
 have HJ0:=hid (And.intro hJl (And.intro (And.intro c1 (And.intro c2 cx)) (And.intro hml (List.nil_prefix (l:=R)))))
 have HML:Hid (∀ i,Mine Wl i->i<Wl.heap.size):=hid (fun _=>hMine.lt hxl)
 have HHS:=hid hsl
 clear hI hX hso hJl c1 c2 cx hml hnm kB kB1 hbl hx1 hxl k1 k2 kx HJ1 HM1 HBW1 hJx hJ
 refine wpIn_wide.1 (range_ownC (n:=8) (by decide) (gf:=107) (lb:=#[.pointer (some ⟨H,0,none⟩),.pointer (some ⟨(H+1),0,none⟩)]) rfl (enters_of Tryz.func107 (by kernel_rfl) rfl) Mine hMine (BelC X wz l Z t sb sg kb km) (fun _ _ h=>h.x) HSO.out (by have:=HHS.out;omega) HML.out (Below.refl _ _) (fun _=>rfl)
  (fun (pre:List (Int × Int)) W=>J (pre.filterMap (leafAt P)) W/\(W.heap[A]?=some (.cells #[.pointer (some ⟨t,0,none⟩)] 25 (0,0))/\W.heap[A+1]?=some (.cells #[.int .i64 i,.int .u32 g] 36 (0,0))/\W.heap[U]?=some (.cells #[.func (.yield LL) #[] #[]] 121 (0,0)))/\(¬ Mine W A/\¬ Mine W (A+1)/\¬ Mine W U)/\pre <+: R) (fun (pre:List (Int × Int)) W=>Jx (pre.filterMap (leafAt P)) W) HI.out HX.out (fun pre W1 h=>(HC.out _ _ h.1).bel pre) HJ0.out
  (fun (x:Int × Int) a' W=>∃ b,W.heap[b]?=some (.cells #[.int .i64 x.1,.int .u32 x.2] 36 (0,0))/\a'={ tmps:=#[.func (.yield LL) #[] #[],.pointer (some ⟨A,0,none⟩),.pointer (some ⟨(A+1),0,none⟩),.pointer (some ⟨U,0,none⟩),.pointer (some ⟨b,0,none⟩),undef,.pointer (some ⟨t,0,none⟩),.bool true,.bool false,.bool false,.pointer (some ⟨t,0,none⟩),.pointer (some ⟨t,0,none⟩),.pointer (some ⟨t,0,none⟩),.agg #[.int .i64 i,.int .u32 g],.bool true,.bool false,.bool false,.pointer (some ⟨t,0,none⟩),.agg #[.int .i64 i,.int .u32 g],.func (.func 107) #[] #[.pointer (some ⟨H,0,none⟩),.pointer (some ⟨(H+1),0,none⟩)],.agg #[.int .i64 x.1,.int .u32 x.2],undef,undef,undef,undef,undef,undef,undef,undef,undef,undef,undef,undef,undef,undef,undef,undef,undef],defers:=[] }) ?hAx ?assign ?body ?done ?stop)
 case hAx =>
  rintro x a' _ A' C row ⟨b,h1,h2⟩ hg hr
  refine⟨b,(hg.block b (lt_of_block h1) (fun e=>?_)).trans h1,h2⟩
  obtain⟨_,o,h3,h4⟩:=hr b e.symm
  rw[h1] at h3
  cases h3
  cases h4
 case assign =>
  intro l0 pre x W1 K hi hK
  unfold encR
  gi_wp2_with fail
  have hbw:Below W1.heap.size W1 (W1.alloc (.cells #[.int .i64 x.1,.int .u32 x.2] 36 (0,0))):=(Below.refl _ _).alloc (Nat.le_refl _) _
  obtain⟨hj1,⟨c1,c2,c3⟩,⟨m1,m2,m3⟩,h4⟩:=hi
  have hn1:n₀<=W1.heap.size:=by have:=lt_of_block c1;omega
  have hx1:=(HC.out _ _ hj1).x
  refine hK _ _ ((KeepsOthers.alloc _ _).from _) (hMine.below hx1 hn1 hbw) ⟨own_below HJo.out hj1 hbw,⟨(hbw.block _ (lt_of_block c1)).trans c1,(hbw.block _ (lt_of_block c2)).trans c2,(hbw.block _ (lt_of_block c3)).trans c3⟩,⟨hMine.priv hx1 hn1 m1 hbw,hMine.priv hx1 hn1 m2 hbw,hMine.priv hx1 hn1 m3 hbw⟩,h4⟩ ⟨W1.heap.size,z0a _ _,?_⟩
  rfl
 case body =>
  rintro l0 pre ⟨x1,x2⟩ a' W1 hl hrec ⟨hj1,hc3,hmm,_⟩ ⟨b,hb,rfl⟩ hlen1
  obtain⟨xi,qx,e1,hZx,hLq⟩:=HP.out.mem (x1,x2) (hlen1.subset (by simp))
  simp only at e1 hLq
  subst e1
  obtain⟨⟨xis,⟨kn,cd,vl,xp,⟨ya,yn,yc⟩,⟨za,zn,zc⟩,xpl,xdi⟩,xgn⟩,hLx,_,_,hNx⟩:=HREL.out.live hLq
  obtain⟨l2,L2,tk2,hT2,hlx2⟩:=(HC.out _ _ hj1).t
  have hLx2:S.Live l2 (xi:Int) x2 xi ⟨xis,⟨kn,cd,vl,xp,⟨ya,yn,yc⟩,⟨za,zn,zc⟩,xpl,xdi⟩,xgn⟩:=⟨hLx.1,(hlx2 xi hZx).trans hLx.2.1,hLx.2.2⟩
  have HNW:=hid (fun w1 (hw1:Below W1.heap.size W1 w1)=>node_at (xi:Int) x2 w1 (hT2.keep hw1) hLx2)
  have HJ1:=hid hj1
  have HC3:=hid hc3
  have HMM:=hid hmm
  have HB:=hid hb
  have HLQ:=hid hLq
  have HNX:=hid hNx
  have HLEN:=hid hlen1
  have hlW:=lt_of_block hc3.1
  clear hj1 hc3 hmm hb hLq hNx hlen1 hLx hLx2 hT2 hlx2
  gi_wp2_with fail
  have HOK:=hid (NJOk.calm (W0:=W1) (T:=102) (z:=#[.int .i64 0,.string ⟨#[]⟩,.string ⟨#[]⟩,.string ⟨#[]⟩,.slice none 0 0,.slice none 0 0]) (o:=#[.int .i64 kn,.string cd,.string vl,.string xp,.slice ya yn yc,.slice za zn zc]) (dl:=fun _=>[]))
  refine rgn_tab (fok_round _ _) 7 [5] (fun xs=>[.pointer (some ⟨t,0,none⟩),.pointer (some ⟨t,0,none⟩),.pointer (some ⟨t,0,none⟩),.agg #[.int .i64 xi,.int .u32 x2],.agg #[.int .i64 kn,.string cd,.string vl,.string xp,.slice ya yn yc,.slice za zn zc],xs 5,undef]) (NJ (fun _=>False) (fun _=>True) (fun _=>True) (fun _ _ _=>True) W1 102 #[.int .i64 0,.string ⟨#[]⟩,.string ⟨#[]⟩,.string ⟨#[]⟩,.slice none 0 0,.slice none 0 0] (fun _=>#[.int .i64 kn,.string cd,.string vl,.string xp,.slice ya yn yc,.slice za zn zc]) [] [] 99 5 6 [] [] (fun _=>[]) (fun _=>undef) (fun _ _=>undef)) (NJ.start trivial) (fun xs ys h=>by simp[h]) ?_ ?_
  ·dsimp only[List.take,z1c,OpT,z1s]
   (repeat' refine And.intro ?_ ?_)<;>first|refine .inl ⟨rfl,?_⟩|refine .inr ⟨rfl,?_⟩
   iterate 5
    ·intro D xs w1 hDk hwt hJ
     have n2:=cell_of (((hJ.m.below (Nat.le_refl _) (fun _ _ e=>e)).block _ (lt_of_block HC3.out.1)).trans HC3.out.1) 0;have hr:=((hJ.m.below (Nat.le_refl _) (fun _ _ e=>e)).block _ (lt_of_block HB.out)).trans HB.out;have n0:=cell_of hr 0;have n1:=cell_of hr 1;clear hr;have HND:=hid (HNW.out w1 (hJ.m.below (Nat.le_refl _) (fun _ _ e=>e)))
     have HJ:=hid hJ
     have HD:=hid hDk
     clear hDk hwt hJ
     go_wp2_with (go_at_call 32;refine HND.out.mono ?_;rintro e w2 ⟨rfl,hb2⟩)
     refine⟨by kernel_rfl,?_⟩
     intros
     exact NJ.calm HOK.out HJ.out HD.out (by first|exact Below.refl _ _|assumption)
   ·intro D xs w1 hDk hwt hJ
    have HJ:=hid hJ
    have HD:=hid hDk
    clear hDk hwt hJ
    go_wp2_with fail
    first|exact⟨_,by kernel_rfl,fun u hu=>by obtain rfl:=hu rfl;exact NJ.alloc HOK.out HJ.out HD.out⟩|exact⟨_,by kernel_rfl,NJ.alloc HOK.out HJ.out HD.out⟩
   ·intro D xs w1 hDk hwt hJ
    have hA:=hwt 5 (eM (by kernel_rfl))
    obtain⟨b0,hb0,eb0,hc0⟩:=hJ.a hA
    rw[eb0]
    have HEB:=hid eb0
    clear eb0
    rw[show D 6=false from hDk] at hc0
    simp only[cond_false] at hc0
    have q0:=cell_of hc0 0
    have q1:=cell_of hc0 1
    have q2:=cell_of hc0 2
    have q3:=cell_of hc0 3
    have q4:=cell_of hc0 4
    have q5:=cell_of hc0 5
    have qf:=z0e hc0
    have HC:=hid hc0
    clear hc0
    have HJ:=hid hJ
    have HD:=hid hDk
    clear hDk hwt hJ
    go_wp2_with fail
    obtain⟨m1,m2⟩:=(set6_mod _ _ _ _ _ _ HC.out)
    refine⟨by kernel_rfl,?_⟩;intros;exact NJ.store HOK.out HJ.out HD.out hA (fun k h=>by simp at h) HEB.out m2 m1
  intro D xs w7 hD hJ
  obtain⟨u,hu,eu,hc⟩:=hJ.a (hD 5 (by omega))
  rw[hD 6 (by omega)] at hc
  simp only[cond_true] at hc
  have HBu:=hid (hJ.m.below (Nat.le_refl _) (fun _ _ e=>e))
  have HOu:=hid hc
  have HLu:=hid hu
  dsimp only[List.take,z1s,List.drop]
  rw[eu]
  clear hD hJ eu hc hu HOK
  have o0:=cell_of HOu.out 0
  have o1:=cell_of HOu.out 1
  have o2:=cell_of HOu.out 2
  have x0:=cell_of ((HBu.out.block _ (lt_of_block HC3.out.2.2)).trans HC3.out.2.2) 0
  have HJ7:=hid (own_below HJo.out HJ1.out HBu.out)
  obtain⟨qn,qp,qd⟩:=qx
  cases qn with
  | leaf cc vv =>
   obtain⟨rfl,rfl,rfl,_⟩:=HNX.out
   have hfm:(pre++[((xi:Int),x2)]).filterMap (leafAt P)=pre.filterMap (leafAt P)++[(cd,vl)]:=by rw[List.filterMap_append];simp[leafAt_leaf HLQ.out]
   obtain⟨fn,tmps,assign,body,hy,hR1⟩:=HY.out _ (cd,vl) _ 5 HJ7.out (by rw[<- hfm,<- HP.out.leaves];exact prefix_fm _ HLEN.out)
   unfold encE at hy
   try dsimp only at hy
   rw[<- hfm] at hR1
   have HRR:=hid (z2w l0 hR1)
   clear hR1 hfm HJ7
   gi_wp2_with fail
   refine HRR.out.mono ?_
   rintro e W3 (⟨rfl,hJ3,hk3,hq3⟩|⟨rfl,hJx3,hq3⟩)
   ·have HQ:=hid (And.intro hJ3 (And.intro hk3 hq3))
    clear hJ3 hk3 hq3 HRR
    gi_wp2_with fail
    obtain⟨hJ3,hk3,hq3⟩:=HQ.out
    obtain⟨c1,c2,c3⟩:=HC3.out
    obtain⟨m1,m2,m3⟩:=HMM.out
    have hbu:=HBu.out
    have hn1:n₀<=W1.heap.size:=by have:=lt_of_block c1;omega
    have hkp:=(hMine.below (HC.out _ _ HJ1.out).x hn1 hbu).trans hk3
    refine⟨(z1n hbu).trans (z0o hq3 (by omega)),hkp,hJ3,⟨hkp.cells A _ (by omega) m1 c1 rfl,hkp.cells (A+1) _ (by omega) m2 c2 rfl,hkp.cells U _ (by omega) m3 c3 rfl⟩,⟨hkp.priv m1 (lt_of_block c1),hkp.priv m2 (lt_of_block c2),hkp.priv m3 (lt_of_block c3)⟩,HLEN.out⟩
   ·have HQ:=hid (And.intro hJx3 hq3)
    clear hJx3 hq3 HRR
    gi_wp2_with fail
    obtain⟨hJx3,hq3⟩:=HQ.out
    have hbu:=HBu.out
    exact⟨(z1n hbu).trans (z0o hq3 (by omega)),hJx3⟩
  | z0k k pt Lk =>
   obtain⟨rfl,_,_,_,hNI,_⟩:=HNX.out
   have hfm:(pre++[((xi:Int),x2)]).filterMap (leafAt P)=pre.filterMap (leafAt P):=by rw[List.filterMap_append];simp[leafAt_inner HLQ.out]
   have hk1:((k:Int) == 1)=false:=by have:=hNI.k1;exact beq_false_of_ne (by omega)
   clear hNI
   gi_wp2_with fail
   refine⟨fun f h=>(by cases h),?_⟩
   gi_wp2_with fail
   obtain⟨c1,c2,c3⟩:=HC3.out
   obtain⟨m1,m2,m3⟩:=HMM.out
   have hbu:=HBu.out
   have hn1:n₀<=W1.heap.size:=by have:=lt_of_block c1;omega
   have hkp:=hMine.below (HC.out _ _ HJ1.out).x hn1 hbu
   refine⟨z1n hbu,hkp,by rw[hfm];exact HJ7.out,⟨hkp.cells A _ (by omega) m1 c1 rfl,hkp.cells (A+1) _ (by omega) m2 c2 rfl,hkp.cells U _ (by omega) m3 c3 rfl⟩,⟨hkp.priv m1 (lt_of_block c1),hkp.priv m2 (lt_of_block c2),hkp.priv m3 (lt_of_block c3)⟩,HLEN.out⟩
 case done =>
  rintro D xs W4 hD rfl ⟨hj,_⟩ hK
  rw[HP.out.leaves] at hj
  have HJ4:=hid hj
  have HKK:=hid hK
  clear hj hK
  go_wp2_with fail
  refine⟨by simp,.inl ⟨_,_,rfl,run_takeDeferred HKK.out,?_⟩⟩
  exact⟨_,results_none rfl _ _ _,⟨_,rfl⟩,.inl ⟨_,rfl,HJo.out.putObj (.deferred none) HJ4.out (by omega) HKK.out rfl⟩⟩
 case stop =>
  rintro D pre W4 hD hpre hj hK
  gi_wp2_with fail
  refine⟨by simp,.inl ⟨_,_,rfl,run_takeDeferred hK,?_⟩⟩
  refine⟨_,results_none rfl _ _ _,⟨_,rfl⟩,.inr ⟨_,?_,HJX.out.putObj (.deferred none) hj (by omega) hK rfl⟩⟩
  have:=prefix_fm (leafAt P) hpre
  rwa [HP.out.leaves] at this
end Go.Proofs.YtgdmfledhhoedaaGreatDoor.T
namespace Go.Burg
open Go Go.RowKit
def codeB (k:ByteArray):ByteArray:=⟨(encL (byt k)).toArray⟩
theorem byt_codeB (k:ByteArray):byt (codeB k)=encL (byt k):=by simp[byt,codeB]
theorem codeB_coded {k:ByteArray} (h:k.size<=16):z2l (codeB k):=⟨byt k,byt_codeB k,by rw[z1b];exact h⟩
theorem byt_app (a b:ByteArray):byt (a++b)=byt a++byt b:=by simp[byt]
def encT:List UInt8->List UInt8
 | []=>[]
 | x :: l=>if x=0 then 0 :: 1 :: encT l else x :: encT l
theorem encT_end:∀ l,encT l++[0,0]=encL l
 | []=>rfl
 | x :: l=>by
  have:=encT_end l
  unfold encT encL
  split<;>simp[this]
theorem encT_app:∀ l m,encT (l++m)=encT l++encT m
 | [],m=>rfl
 | x :: l,m=>by
  have:=encT_app l m
  simp only[List.cons_append]
  rw[encT,encT]
  split<;>simp[this]
variable {c:ByteArray} {k:Nat}
theorem take_next {x:UInt8} (h:(byt c)[k]?=some x):(byt c).take (k+1)=(byt c).take k++[x]:=by
 have:=(List.getElem?_eq_some_iff.1 h)
 obtain⟨h1,h2⟩:=this
 rw[List.take_add_one,h]
 rfl
theorem encT_len:∀ l,(encT l).length<=2 * l.length
 | []=>Nat.le_refl _
 | x :: l=>by
  have:=encT_len l
  unfold encT
  split<;>simp<;>omega
def encB' (c:ByteArray) (k:Nat):ByteArray:=⟨(encT ((byt c).take k)).toArray⟩
theorem encB'_size (c:ByteArray) (k:Nat):(encB' c k).size<=2 * c.size:=by
 have h:=encT_len ((byt c).take k)
 have h2:((byt c).take k).length<=c.size:=by rw[List.length_take,z1b];omega
 have h3:(encB' c k).size=(encT ((byt c).take k)).length:=by simp[encB',ByteArray.size]
 omega
theorem encB'_next {x:UInt8} (h:(byt c)[k]?=some x):encB' c k++c.extract k (k+1)++(if x=0 then ⟨#[1]⟩ else ⟨#[]⟩)=encB' c (k+1):=by
 have byt_inj':∀ {a b:ByteArray},byt a=byt b->a=b:=fun {a b} h=>by
  cases a
  cases b
  simp only[byt] at h
  rw[Array.toList_inj.1 h]
 apply byt_inj'
 rw[byt_app,byt_app]
 have e1:byt (encB' c k)=encT ((byt c).take k):=by simp[byt,encB']
 have e2:byt (encB' c (k+1))=encT ((byt c).take (k+1)):=by simp[byt,encB']
 have e3:byt (c.extract k (k+1))=[x]:=by
  have:=(List.getElem?_eq_some_iff.1 h)
  obtain⟨h1,h2⟩:=this
  simp only[byt,ByteArray.data_extract,Array.toList_extract] at *
  simp only[List.extract,Nat.add_sub_cancel_left]
  rw[show c.data.toList=byt c from rfl,List.drop_eq_getElem_cons h1]
  have h3:(byt c)[k]=x:=h2
  simp[h3]
 rw[e1,e2,e3,take_next h,encT_app]
 by_cases hx:x=0
 ·subst hx
  rw[if_pos rfl]
  simp[encT,byt]
 ·rw[if_neg hx]
  simp[encT,byt,hx]
end Go.Burg
namespace Go.Proofs.YtgdmfledhhoedaaGreatDoor.R
set_option maxRecDepth 8000
open Go.ChangeShapes Go.WideShapes Go.ChangeAt Go.RowKit Go.Burg
variable {c:ByteArray}
theorem Code_at (w:World) (h:c.size<=1000):Calls Tryz.prog 40 #[.string c] w fun e w'=>e=.returned (.string (codeB c))/\w'=w:=by
 go_enter Tryz.func40,Tryz.ntmps40
 go_wp2_with fail
 go_loopw [3,4] (fun sv iv wr=>∃ k:Nat,k<=c.size/\sv=.string (encB' c k)/\iv=.int .i64 k/\wr=w) (fun _ iv _=>c.size - (intOf iv).toNat)
 case atStart=>exact⟨0,Nat.zero_le _,rfl,rfl,rfl⟩
 case round =>
  obtain⟨k,hk,rfl,rfl,rfl⟩:=hrel
  by_cases hlt:k<c.size
  ·have ex:=byt_get hlt
   generalize c[k]=x at ex
   have r1:∀ w,(Instr.index 9 (.string c) (.int .i64 k)).run Tryz.prog w=.ok (.int .u8 (x.toNat:Int)) w:=fun w=>run_byte w _ c k x (by kernel_rfl) ex
   have r2:∀ w,(Instr.slice 9 (.string c) (some (.int .i64 k)) (some (.int .i64 ((k:Int)+1))) none).run Tryz.prog w=.ok (.string (c.extract k (k+1))) w:=fun w=>by
    have:=run_slice_string (P:=Tryz.prog) w 9 c .i64 .i64 (k:Int) ((k:Int)+1) (by kernel_rfl) (by omega) (by omega) (by omega)
    simpa using this
   have hn:=encB'_next ex
   have hz:=encB'_size c k
   by_cases hx:x=0
   ·subst hx
    rw[if_pos rfl] at hn
    have HN:=hid hn
    clear hn ex
    go_wp2_with fail
    rw[HN.out]
    go_roundw
    case rel=>exact⟨k+1,by omega,rfl,by go_num,by first|rfl|trivial⟩
    case measure=>simp[intOf];omega
   ·rw[if_neg hx] at hn
    have hd:((x.toNat:Int) == 0)=false:=by
     refine beq_false_of_ne (fun e=>hx (UInt8.toNat_inj.1 ?_))
     simpa using e
    have HN:=hid hn
    clear hn ex
    go_wp2_with fail
    go_roundw
    case rel=>exact⟨k+1,by omega,by rw[<- HN.out];exact congrArg Value.string (ByteArray.ext (by simp)),by go_num,by first|rfl|trivial⟩
    case measure=>simp[intOf];omega
  ·obtain rfl:k=c.size:=by omega
   have hz:=encB'_size c c.size
   go_wp2_with fail
   go_ret
   refine⟨?_,rfl⟩
   have e:encB' c c.size++⟨#[0,0]⟩=codeB c:=by
    unfold encB' codeB
    rw[List.take_of_length_le (by rw[z1b];exact Nat.le_refl _),<- encT_end]
    apply ByteArray.ext
    simp
   rw[<- e]
   rfl
def keyOf (k:ByteArray):ByteArray:=if 16<k.size then ⟨#[]⟩ else k
theorem keyOf_size (k:ByteArray):(keyOf k).size<=16:=by
 unfold keyOf
 split
 ·decide
 ·omega
theorem lcode_at (w:World):Calls Tryz.prog 9 #[.string c] w fun e w'=>e=.returned (.string (codeB (keyOf c)))/\w'=w:=by
 by_cases h:16<c.size
 ·have hd:decide ((c.size:Int) > 16)=true:=by simp;omega
  have HC:=hid (Code_at (c:=⟨#[]⟩) w (by decide))
  have e:keyOf c=⟨#[]⟩:=if_pos h
  rw[e]
  go_enter Tryz.func9,Tryz.ntmps9
  go_wp2_with (go_at_call 40;refine HC.out.mono ?_;rintro e w2 ⟨rfl,rfl⟩)
  go_ret
  exact⟨rfl,rfl⟩
 ·have hd:decide ((c.size:Int) > 16)=false:=by simp;omega
  have HC:=hid (Code_at (c:=c) w (by omega))
  have e:keyOf c=c:=if_neg h
  rw[e]
  go_enter Tryz.func9,Tryz.ntmps9
  go_wp2_with (go_at_call 40;refine HC.out.mono ?_;rintro e w2 ⟨rfl,rfl⟩)
  go_ret
  exact⟨rfl,rfl⟩
end Go.Proofs.YtgdmfledhhoedaaGreatDoor.R
namespace Go.Burg
open Go Go.RowKit
def z2u (n:Nat):ByteArray:=⟨#[0,0,0,0,0,0,0,UInt8.ofNat n]⟩
end Go.Burg
namespace Go.Proofs.YtgdmfledhhoedaaGreatDoor.T
set_option maxRecDepth 8000
open Go.ChangeShapes Go.WideShapes Go.ChangeAt Go.RowKit Go.Burg
theorem zget (k:Nat) (h:k<8):(#[.int .u8 0,.int .u8 0,.int .u8 0,.int .u8 0,.int .u8 0,.int .u8 0,.int .u8 0,.int .u8 0]:Array Value)[k]?=some (.int .u8 0):=by
 rcases (by omega:k=0\/k=1\/k=2\/k=3\/k=4\/k=5\/k=6\/k=7) with rfl|rfl|rfl|rfl|rfl|rfl|rfl|rfl<;>rfl
theorem zset (k:Nat) (n:Int) (h:k<7):(#[.int .u8 0,.int .u8 0,.int .u8 0,.int .u8 0,.int .u8 0,.int .u8 0,.int .u8 0,.int .u8 n]:Array Value).setIfInBounds k (.int .u8 0)=#[.int .u8 0,.int .u8 0,.int .u8 0,.int .u8 0,.int .u8 0,.int .u8 0,.int .u8 0,.int .u8 n]:=by
 rcases (by omega:k=0\/k=1\/k=2\/k=3\/k=4\/k=5\/k=6) with rfl|rfl|rfl|rfl|rfl|rfl|rfl<;>rfl
variable {n:Nat}
theorem ois_at (w:World) (h1:1<=n) (h2:n<=16):Calls Tryz.prog 82 #[.agg #[.int .i64 n]] w fun e w'=>e=.returned (.bool true)/\Below w.heap.size w w':=by
 have d1:decide ((n:Int)>=1)=true:=by simp;omega
 have d2:decide ((n:Int)<=16)=true:=by simp;omega
 go_enter Tryz.func82,Tryz.ntmps82
 go_wp2
 go_ret
 exact⟨by first|rfl|simp[*],(Below.refl _ _).alloc (Nat.le_refl _) _⟩
theorem oprefix_at (w:World) (h1:1<=n) (h2:n<=16):Calls Tryz.prog 83 #[.agg #[.int .i64 n]] w fun e w'=>e=.returned (.string (z2u n))/\Below w.heap.size w w':=by
 have hn:=z0c (o':=(.cells #[.int .u8 0,.int .u8 0,.int .u8 0,.int .u8 0,.int .u8 0,.int .u8 0,.int .u8 0,.int .u8 0] 216 (0,0))) (z0a w (.cells #[.int .i64 n] 176 (0,0)))
 have ha:=z0a (w.alloc (.cells #[.int .i64 n] 176 (0,0))) (.cells #[.int .u8 0,.int .u8 0,.int .u8 0,.int .u8 0,.int .u8 0,.int .u8 0,.int .u8 0,.int .u8 0] 216 (0,0))
 have hs1:(w.alloc (.cells #[.int .i64 n] 176 (0,0))).heap.size=w.heap.size+1:=by simp
 rw[hs1] at ha
 have hB:Below w.heap.size w ((w.alloc (.cells #[.int .i64 n] 176 (0,0))).alloc (.cells #[.int .u8 0,.int .u8 0,.int .u8 0,.int .u8 0,.int .u8 0,.int .u8 0,.int .u8 0,.int .u8 0] 216 (0,0))):=((Below.refl _ _).alloc (Nat.le_refl _) _).alloc (by simp) _
 generalize hW:(w.alloc (.cells #[.int .i64 n] 176 (0,0))).alloc (.cells #[.int .u8 0,.int .u8 0,.int .u8 0,.int .u8 0,.int .u8 0,.int .u8 0,.int .u8 0,.int .u8 0] 216 (0,0))=W at *
 generalize hob:w.heap.size=ob at *
 have HN:=hid hn
 have HA:=hid ha
 have HB:=hid hB
 have HE:=hid (And.intro hW hob)
 clear hn ha hs1 hB hW hob
 go_enter Tryz.func83,Tryz.ntmps83
 go_wp2_with fail
 try rw[HE.out.1,HE.out.2]
 go_loopw [5] (fun iv wr=>∃ k:Nat,k<=8/\iv=.int .i64 k/\wr.heap[ob]?=some (.cells #[.int .i64 n] 176 (0,0))/\wr.heap[ob+1]?=some (.cells #[.int .u8 0,.int .u8 0,.int .u8 0,.int .u8 0,.int .u8 0,.int .u8 0,.int .u8 0,.int .u8 (if k=8 then (n:Int) else 0)] 216 (0,0))/\Below ob w wr) (fun iv _=>8 - (intOf iv).toNat)
 case atStart=>exact⟨0,by omega,rfl,HN.out,HA.out,HB.out⟩
 case round =>
  obtain⟨k,hk,rfl,hn,ha,hB⟩:=hrel
  by_cases hlt:k<7
  ·rw[if_neg (by omega)] at ha
   have b0:=cell_of hn 0
   have HA1:=hid ha
   have HN1:=hid hn
   have HB1:=hid hB
   have hpw:(256:Int)<=2 ^ (8 * (7 - (k:Int))).toNat:=by
    have e:(8 * (7 - (k:Int))).toNat=8+(48 - 8 * k):=by omega
    rw[e,Int.pow_add]
    have:(0:Int)<2 ^ (48 - 8 * k):=Int.pow_pos (by omega)
    omega
   have hq:(n:Int) / 2 ^ (8 * (7 - (k:Int))).toNat=0:=Int.ediv_eq_zero_of_lt (by omega) (by omega)
   have f1:=z0e ha
   have a1:wr.cell? ⟨ob+1,k,none⟩=some (.int .u8 0):=(cell_of ha k).trans (zget k (by omega))
   have HST:=hid (heap_set (i:=k) (v:=.int .u8 0) ha)
   clear hn ha hB hpw
   go_wp2_with fail
   have hMs:=Mod.setCell (S:=(·=ob+1)) (p:=⟨ob+1,k,none⟩) (Mod.refl _ wr) (.inl rfl) (.int .u8 0)
   go_roundw
   case rel=>exact⟨k+1,by omega,by go_num,(hMs.block _ (lt_of_block HN1.out) (by omega)).trans HN1.out,by rw[if_neg (by omega)];rw[zset k 0 (by omega)] at HST;exact HST.out,HB1.out.setCell (by simp) _⟩
   case measure=>simp[intOf];omega
  ·by_cases h7:k=7
   ·subst h7
    rw[if_neg (by omega)] at ha
    have b0:=cell_of hn 0
    have HN1:=hid hn
    have HB1:=hid hB
    have hq:(n:Int) / 2 ^ 0=n:=by simp
    have hc:IntKind.u8.wrap (n:Int)=n:=by rw[IntKind.wrap_u8];omega
    have f1:=z0e ha
    have a1:wr.cell? ⟨ob+1,7,none⟩=some (.int .u8 0):=(cell_of ha 7).trans (zget 7 (by omega))
    have HST:=hid (heap_set (i:=7) (v:=.int .u8 n) ha)
    clear hn ha hB
    go_wp2_with fail
    have hMs:=Mod.setCell (S:=(·=ob+1)) (p:=⟨ob+1,7,none⟩) (Mod.refl _ wr) (.inl rfl) (.int .u8 n)
    go_roundw
    case rel=>exact⟨8,by omega,by go_num,(hMs.block _ (lt_of_block HN1.out) (by omega)).trans HN1.out,HST.out,HB1.out.setCell (by simp) _⟩
    case measure=>simp[intOf]
   ·obtain rfl:k=8:=by omega
    rw[if_pos rfl] at ha
    have HA1:=hid ha
    have HB1:=hid hB
    have hcv:(convert 23 9 (.slice (some ⟨ob+1,0,none⟩) 8 8)).run Tryz.prog wr=.ok (.string (z2u n)) wr:=by
     have:=run_convert_bytes_back (P:=Tryz.prog) wr 23 9 5 ⟨ob+1,0,none⟩ 8 [0,0,0,0,0,0,0,UInt8.ofNat n] Tryz.underlying23 (by kernel_rfl) Tryz.underlying9 (fun j hj=>by
      have e8:(n:Int) % 256=n:=by omega
      have hz:=cell_of ha j
      rcases (by simpa using hj:j<8) with hj
      rcases (by omega:j=0\/j=1\/j=2\/j=3\/j=4\/j=5\/j=6\/j=7) with rfl|rfl|rfl|rfl|rfl|rfl|rfl|rfl<;>simpa[e8,Addr.add] using hz)
     exact this
    go_wp2_with fail
    go_ret
    exact⟨rfl,hB⟩
theorem Prefix_at (w:World) (h1:1<=n) (h2:n<=16):Calls Tryz.prog 43 #[.int .i64 n] w fun e w'=>e=.returned (.tuple #[.string (z2u n),.int .i64 0])/\Below w.heap.size w w':=by
 have hn:=z0a w (.cells #[.int .i64 n] 176 (0,0))
 have hB:Below w.heap.size w (w.alloc (.cells #[.int .i64 n] 176 (0,0))):=(Below.refl _ _).alloc (Nat.le_refl _) _
 have HN:=hid hn
 have HB:=hid hB
 have HI:=hid (ois_at (w.alloc (.cells #[.int .i64 n] 176 (0,0))) h1 h2)
 have n0:=cell_of hn 0
 have HP:=hid (fun w1=>oprefix_at w1 h1 h2)
 have hsz:=hB.size
 clear hn hB
 go_enter Tryz.func43,Tryz.ntmps43
 go_wp2_with (first|(go_at_call 82;refine HI.out.mono ?_;rintro e w2 ⟨rfl,hb2⟩;go_loud (have n0:=cell_of (z0b HN.out hb2 (lt_of_block HN.out)) 0;have HB2:=hid (HB.out.trans (hb2.mono hsz));clear hb2))|(go_at_call 83;refine (HP.out _).mono ?_;rintro e w3 ⟨rfl,hb3⟩))
 go_ret2
 exact⟨rfl,HB2.out.trans (hb3.mono HB2.out.size)⟩
end Go.Proofs.YtgdmfledhhoedaaGreatDoor.T
