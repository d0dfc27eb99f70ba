/- Part 24 of 27. -/
import Derived.Test.YtgdmfledhhoedaaGreatDoorD23
import Derived.Test.YtgdmfledhhoedaaGreatDoorD22
import Derived.Test.YtgdmfledhhoedaaGreatDoorD11
namespace Go.Burg
open Go Go.RowKit
def z1d (n:Nat) (E:Ents):Ents:=E.map fun e=>(z2u n++e.1,e.2)
def z0t (lt:Nat->Ten) (Es:Nat->Ents):Ents:=(tens lt 16).flatMap fun n=>z1d n (Es n)
end Go.Burg
namespace Go.Proofs.YtgdmfledhhoedaaGreatDoor.T
set_option maxRecDepth 8000
open Go.ChangeShapes Go.WideShapes Go.ChangeAt Go.RowKit Go.Burg
open Go.Burg.Lk Go.Shelf
attribute [local go_sem] Oper.semAt_some
variable {kb km sb sg t x:Nat}
theorem tabAll_at (w:World) :
 Calls Tryz.prog 10 #[.pointer (some ⟨x,0,none⟩)] w fun e w'=>e=.returned (.func (.func 41) #[] #[.pointer (some ⟨w.heap.size,0,none⟩)])/\w'=w.alloc (.cells #[.pointer (some ⟨x,0,none⟩)] 24 (0,0)):=by
 have hmf:=makeF Tryz.prog
 go_enter Tryz.func10,Tryz.ntmps10
 go_wp2_with fail
 go_ret
 exact⟨rfl,rfl⟩
structure TAllC (X:World->Prop) (wz:World) (lp:List (Cel Nd)) (Zs:Nat->Nat->Prop) (lt:Nat->Ten) (x t sb sg kb km:Nat) (W:World):Prop where
 x:TabAt 87 W x t lt
 t:∃ l' L' tk',TreeAt W t sb sg kb km l' L' tk'/\∀ n,n∈tens lt 16->∀ y,Zs n y->l'[y]?=lp[y]?
 r:∀ (k:Nat) (cs:Array Value) (fr:Nat × Nat),wz.heap[k]?=some (.cells cs 36 fr)->W.heap[k]?=some (.cells cs 36 fr)
 g:X W
variable {lp:List (Cel Nd)} {lt:Nat->Ten} {wz:World}
theorem TAllC.one {X:World->Prop} {Zs:Nat->Nat->Prop} {W:World} (h:TAllC X wz lp Zs lt x t sb sg kb km W) {n:Nat} (hn:n∈tens lt 16):AllC X wz lp (Zs n) t sb sg kb km W :=
 ⟨by obtain⟨l',L',tk',a,b⟩:=h.t;exact⟨l',L',tk',a,b n hn⟩,h.r,h.g⟩
set_option maxRecDepth 100000 in
set_option maxHeartbeats 8000000 in
theorem tall_own {n₀:Nat} {P:List (Cel PNd)} (hRel:Rel wz lp P) (Mine:World->Nat->Prop) {X:World->Prop} (hMine:MineX n₀ Mine X)
 {an:Nat->Nat} {qs:Nat->PNd} {Zs:Nat->Nat->Prop} {Rs:Nat->List (Int × Int)} {Es:Nat->Ents} (hs:∀ n,n∈tens lt 16->(lt n).slot=(an n:Int)) (hP:∀ n,n∈tens lt 16->Post P (an n) (lt n).agen (Zs n) (Rs n) (Es n)) (hq:∀ n,n∈tens lt 16->z0l P (an n) (lt n).agen (an n) (qs n)/\(qs n).planted=true)
 (hc:∀ n,n∈tens lt 16->∀ e,e∈Es n->e.1.size<=1000)
 (A:Nat) (w0:World) (hA:w0.heap[A]?=some (.cells #[.pointer (some ⟨x,0,none⟩)] 24 (0,0))) (hn:n₀<=A) (hm1:¬ Mine w0 A) (hx0:X w0) :
 SeqOwnC (fun _ W=>TAllC X wz lp Zs lt x t sb sg kb km W) Mine Tryz.prog 41 #[.pointer (some ⟨A,0,none⟩)] encE n₀ (fun xs=>xs=z0t lt Es) (fun pre=>pre <+: z0t lt Es) w0:=by
 intro LL J Jx W hW hml hJ hJx hC hY h0
 have hb1:=z0b hA hW (lt_of_block hA)
 have hlA:=lt_of_block hA
 have hm1W:=hMine.priv hx0 (by omega) hm1 hW
 have hxW:=(hC _ _ h0).g
 have HA:=hid (z0c (o':=(.cells #[.func (.yield LL) #[] #[]] 121 (0,0))) hb1)
 have HX:=hid (z0a W (.cells #[.func (.yield LL) #[] #[]] 121 (0,0)))
 have hBW:Below W.heap.size W (W.alloc (.cells #[.func (.yield LL) #[] #[]] 121 (0,0))):=(Below.refl _ _).alloc (Nat.le_refl _) _
 have hsz:=hW.size
 have hTB:=(hC _ _ h0).x.keep hBW
 have HY:=hid hY
 have HC:=hid hC
 have HP:=hid hP
 have HQ:=hid hq
 have HS:=hid hs
 have HCS:=hid hc
 have HREL:=hid hRel
 have HJ0:=hid (own_below hJ h0 hBW)
 have HM:Hid (¬ Mine (W.alloc (.cells #[.func (.yield LL) #[] #[]] 121 (0,0))) A/\¬ Mine (W.alloc (.cells #[.func (.yield LL) #[] #[]] 121 (0,0))) W.heap.size):=hid ⟨hMine.priv hxW (by omega) hm1W hBW,hMine.priv hxW (by omega) (fun h=>absurd (hml _ h) (Nat.lt_irrefl _)) hBW⟩
 have HXB:=hid (hMine.xb hxW (by omega) hBW)
 clear hA hW hb1 hY h0 hm1 hm1W hC hml hP hRel hq hs hc hx0 hxW
 refine (callsIn_wide (n:=8)).1 ?_
 refine callsIn_of_wp_marks Tryz.func41 rfl trivial ?_ rfl
 simp only[Tryz.ntmps41,List.size_toArray,List.length_cons,List.length_nil,Nat.reduceAdd,Nat.reduceSub,Array.replicate_succ,Array.replicate_zero,List.push_toArray,List.append_toArray,List.nil_append,List.cons_append]
 have a0:=cell_of HA.out 0
 have HTN:=hid (tenants_at _ hTB)
 gi_wp2_with fail
 refine⟨trivial,?_⟩
 refine ((callsIn_wide (n:=7)).2 HTN.out).mono ?_
 rintro e w1 ⟨sv,rfl,hO,hb⟩
 obtain⟨sa,sc,rfl⟩:∃ a c,sv=.slice a (tens lt 16).length c:=by
  obtain⟨_,⟨e,h⟩|⟨g,cp,cur,e,_⟩⟩:=hO
  ·rw[h];exact⟨_,_,e⟩
  ·exact⟨_,_,e⟩
 obtain⟨G,cs,fr,hrow,hget⟩:∃ (G:Nat) (cs:Array Value) (fr:Nat × Nat),((tens lt 16).length≠0->sa=some ⟨G,0,none⟩/\w1.heap[G]?=some (.cells cs 3 fr)/\W.heap.size+1<=G)/\((tens lt 16).length≠0->∀ j n,(tens lt 16)[j]?=some n->cs[j]?=some (Value.int .i64 (n:Nat))):=by
  by_cases hz:(tens lt 16).length=0
  ·exact⟨0,#[],(0,0),fun h=>absurd hz h,fun h=>absurd hz h⟩
  ·obtain⟨g1,e1,_,hcl⟩:=O.z0z (z2g hO (Nat.zero_le _)) (by omega)
   subst e1
   have hlo:=World.ownsRow.lt hO g1 rfl
   obtain⟨_,⟨e,_⟩|⟨g,cap,cur,e,_,hg,_⟩⟩:=hO
   ·cases e
   ·cases e
    refine⟨g1,cur,_,fun _=>⟨rfl,hg,by have:=hlo.1;simp at this;omega⟩,fun _ j n hj=>(cell_of hg _).symm.trans (hcl _ _ (natsL_get hj))⟩
 have hbW:Below (W.alloc (.cells #[.func (.yield LL) #[] #[]] 121 (0,0))).heap.size (W.alloc (.cells #[.func (.yield LL) #[] #[]] 121 (0,0))) w1:=hb
 have hJ1:=own_below hJ HJ0.out hb
 have c1:=(hb.block _ (lt_of_block HA.out)).trans HA.out
 have cx:=(hb.block _ (lt_of_block HX.out)).trans HX.out
 have hn1:n₀<=(W.alloc (.cells #[.func (.yield LL) #[] #[]] 121 (0,0))).heap.size:=by simp;omega
 have hm1:¬ Mine w1 A/\¬ Mine w1 W.heap.size:=⟨hMine.priv HXB.out hn1 HM.out.1 hb,hMine.priv HXB.out hn1 HM.out.2 hb⟩
 have hmg:(tens lt 16).length≠0->¬ Mine w1 G:=fun hz hm=>by
  have h1:=hMine.lt HXB.out (hMine.grow HXB.out hn1 (z0w hb) (fun r e=>by cases e) hm)
  have h2:=(hrow hz).2.2
  simp at h1
  omega
 have hlt16:(tens lt 16).length<=16:=tens_len lt 16
 generalize hU:W.heap.size=U at *
 have HSL:=hid hrow
 have HGT:=hid hget
 have HJ1:=hid hJ1
 have HB1:=hid (And.intro c1 cx)
 have HM1:=hid (And.intro hm1 hmg)
 have HT16:=hid hlt16
 have hU1:U<w1.heap.size:=lt_of_block cx
 clear hrow hget hJ1 c1 cx hm1 hmg hbW hb hO HTN a0 HM HJ0 HX HXB HA hTB hBW hn1 hlt16
 have hmem:∀ (j n:Nat),(tens lt 16)[j]?=some n->n∈tens lt 16/\1<=n/\n<=16:=fun j n h=>by
  have hm:=List.mem_of_getElem? h
  refine⟨hm,?_⟩
  unfold tens at hm
  obtain⟨h1,_⟩:=List.mem_filter.1 hm
  obtain⟨k,h2,h3⟩:=List.mem_map.1 h1
  have:=List.mem_range.1 h2
  omega
 have HMEM:=hid hmem
 clear hmem
 gi_wp2_with fail
 generalize hTT:tens lt 16=TT at *
 refine wpIn_loop (fun a wr=>∃ (j:Nat) (ds:List Deferred) (u4 u5 u6 u7 u8 u13 u14 u15 u16 u17 u18 u19 u20 u21 u22 u23 u24 u25 u26 u27 u28 u29 u30 u31 u32 u33 u36 u37 u38 u39 u40 u41 u42 u43:Value),(j<=TT.length/\J ((TT.take j).flatMap fun n=>z1d n (Es n)) wr/\(wr.heap[A]?=some (.cells #[.pointer (some ⟨x,0,none⟩)] 24 (0,0))/\wr.heap[U]?=some (.cells #[.func (.yield LL) #[] #[]] 121 (0,0))/\(TT.length≠0->wr.heap[G]?=some (.cells cs 3 fr)))/\(¬ Mine wr A/\¬ Mine wr U/\(TT.length≠0->¬ Mine wr G))/\Marks (U+1) ds wr)/\a={ tmps:=#[.func (.yield LL) #[] #[],.pointer (some ⟨A,0,none⟩),.pointer (some ⟨U,0,none⟩),undef,u4,u5,u6,u7,u8,.pointer (some ⟨x,0,none⟩),.slice sa TT.length sc,.int .i64 TT.length,.int .i64 j,u13,u14,u15,u16,u17,u18,u19,u20,u21,u22,u23,u24,u25,u26,u27,u28,u29,u30,u31,u32,u33,undef,undef,u36,u37,u38,u39,u40,u41,u42,u43],defers:=ds }) (fun a _=>TT.length - (intOf (a.tmps.getD 12 undef)).toNat) ?atStart ?round
 case atStart =>
  exact⟨0,[],_,_,_,_,_,_,_,_,_,_,_,_,_,_,_,_,_,_,_,_,_,_,_,_,_,_,_,_,_,_,_,_,_,_,⟨Nat.zero_le _,HJ1.out,⟨HB1.out.1,HB1.out.2,fun h=>(HSL.out h).2.1⟩,⟨HM1.out.1.1,HM1.out.1.2,HM1.out.2⟩,trivial⟩,rfl⟩
 case round =>
  clear HJ1 HB1 HM1
  rintro _ wr ⟨j,ds,u4,u5,u6,u7,u8,u13,u14,u15,u16,u17,u18,u19,u20,u21,u22,u23,u24,u25,u26,u27,u28,u29,u30,u31,u32,u33,u36,u37,u38,u39,u40,u41,u42,u43,⟨hj,hJs,hbl,hmm,hmk⟩,rfl⟩
  have HMK:=hid hmk
  have HJS:=hid hJs
  have HMM:=hid hmm
  have HBL:=hid hbl
  clear hJs hmm hmk hbl
  by_cases hlt:j<TT.length
  ·have hz:TT.length≠0:=by omega
   obtain⟨n,hjn⟩:∃ n,TT[j]?=some n:=⟨_,List.getElem?_eq_getElem hlt⟩
   obtain⟨hnm,hn1,hn16⟩:=HMEM.out j n hjn
   have HGN:=hid (HSL.out hz).2.2
   have hsa:=(HSL.out hz).1
   subst hsa
   have z0:=(cell_of (HBL.out.2.2 hz) j).trans (HGT.out hz j n hjn)
   have HPX:=hid (Prefix_at (n:=n) wr hn1 hn16)
   have HJN:=hid hjn
   clear hjn hz
   gi_wp2_with fail
   refine⟨trivial,?_⟩
   refine ((callsIn_wide (n:=7)).2 HPX.out).mono ?_
   rintro e w2 ⟨rfl,hb2⟩
   gi_wp2_with fail
   have hV:=z0a w2 (.cells #[.string (z2u n)] 9 (0,0))
   have hb5:Below wr.heap.size wr (w2.alloc (.cells #[.string (z2u n)] 9 (0,0))):=hb2.alloc hb2.size _
   have hVr:=hb2.size
   generalize hw5:w2.alloc (.cells #[.string (z2u n)] 9 (0,0))=W5 at *
   generalize w2.heap.size=V at *
   have hJ5:=own_below hJ HJS.out hb5
   have hTB:=(HC.out _ _ hJ5).x
   have hxr:=(HC.out _ _ HJS.out).g
   have HX5:=hid (HC.out _ _ hJ5).g
   have hUw:=lt_of_block HBL.out.2.1
   have hAw:=lt_of_block HBL.out.1
   have e5:∀ {k:Nat} {o:Obj},wr.heap[k]?=some o->W5.heap[k]?=some o:=fun h=>(hb5.block _ (lt_of_block h)).trans h
   have hBL5:=hid (And.intro (e5 HBL.out.1) (And.intro (e5 HBL.out.2.1) (And.intro (e5 (HBL.out.2.2 (by omega))) hV)))
   have hn0r:n₀<=wr.heap.size:=by omega
   have hnm5:∀ k,wr.heap.size<=k->¬ Mine W5 k:=fun k hk hm=>by
    have h1:=hMine.lt hxr (hMine.grow hxr hn0r (z0w hb5) (fun r e=>by cases e) hm)
    omega
   have hMM5:=hid (And.intro (hMine.priv hxr hn0r HMM.out.1 hb5) (And.intro (hMine.priv hxr hn0r HMM.out.2.1 hb5) (And.intro (hMine.priv hxr hn0r (HMM.out.2.2 (by omega)) hb5) (hnm5 V hVr))))
   have HMK5:=hid (HMK.out.below hb5)
   have hV5:=lt_of_block hV
   have HTB:=hid hTB
   have HJ5:=hid hJ5
   have HPB:=hid hBL5.out.1
   have hn17:n<17:=by omega
   have HSN:=hid (HS.out n hnm)
   clear hxr hw5 hV hb5 hb2 HMK HMM HBL HJS e5 hJ5 hTB hnm5 HPX z0
   refine rgn_seqI (fok_wide _) (by kernel_rfl) 13 (Turn 12 (fun w1=>w1=W5.drew) (fun w1=>w1=(W5.drew.alloc (.cells #[.pointer (some ⟨t,0,none⟩)] 25 (0,0))).alloc (.cells #[.int .i64 (an n),.int .u32 (lt n).agen] 36 (0,0)))) (by kernel_rfl) (by kernel_rfl) (by kernel_rfl) (Turn.start rfl) ?_
   dsimp only[List.take]
   iterate 12
    refine Seq.calm (a':=?_) (by decide) ?_ ?_ ?_
    rotate_left
    ·intro w1 hw1
     have hbw:Below W5.heap.size W5 w1:=hw1.elim (fun e=>by rw[e];exact (Below.refl _ _).drew) (fun e=>by rw[e];exact ((Below.refl _ _).drew.alloc (Nat.le_refl _) _).alloc (by simp) _)
     have a0:=cell_of ((hbw.block A (lt_of_block HPB.out)).trans HPB.out) 0
     obtain⟨z0,zf⟩:=(HTB.out.keep hbw).head
     obtain⟨c0,c1,c2,c3⟩:=(HTB.out.keep hbw).cell hn17
     rw[HSN.out] at c1
     clear c0 c3 hbw hw1
     go_wp2_with (fail)
     refine⟨?_,id,id⟩;exact rfl
    ·kernel_rfl
   refine Seq.turn (a':=?_) ?_ ?_ ?_
   rotate_left
   ·intro w1 hw1
    subst hw1;go_wp2_with (go_at_call 44;refine (pAll_at _ _ _).mono ?_;rintro e w2 ⟨rfl,rfl⟩);refine⟨?_,rfl⟩;exact rfl
   ·kernel_rfl
   iterate 0
    refine Seq.calm (a':=?_) (by decide) ?_ ?_ ?_
    rotate_left
    ·intro w1 hw1
     have hbw:Below W5.heap.size W5 w1:=hw1.elim (fun e=>by rw[e];exact (Below.refl _ _).drew) (fun e=>by rw[e];exact ((Below.refl _ _).drew.alloc (Nat.le_refl _) _).alloc (by simp) _)
     have a0:=cell_of ((hbw.block A (lt_of_block HPB.out)).trans HPB.out) 0
     obtain⟨z0,zf⟩:=(HTB.out.keep hbw).head
     obtain⟨c0,c1,c2,c3⟩:=(HTB.out.keep hbw).cell hn17
     rw[HSN.out] at c1
     clear c0 c3 hbw hw1
     go_wp2_with (fail)
     refine⟨?_,id,id⟩;exact rfl
    ·kernel_rfl
   refine SeqI.nil ?_
   intro D w1 hD hI
   replace hI:=hI.done (hD 12 (by omega))
   clear hD
   dsimp only[List.drop]
   subst hI
   gi_wp2_with fail
   obtain⟨Wa,hWa⟩:∃ Wa,Wa=(W5.drew.alloc (.cells #[.pointer (some ⟨t,0,none⟩)] 25 (0,0))).alloc (.cells #[.int .i64 (an n),.int .u32 (lt n).agen] 36 (0,0)):=⟨_,rfl⟩
   have hs0:W5.drew.heap.size=W5.heap.size:=by rw[drew_heap]
   have hs1:(W5.drew.alloc (.cells #[.pointer (some ⟨t,0,none⟩)] 25 (0,0))).heap.size=W5.heap.size+1:=by simp
   have hbA:Below W5.heap.size W5 Wa:=by rw[hWa];exact ((Below.refl _ _).drew.alloc (Nat.le_refl _) _).alloc (by simp) _
   have hp:Wa.heap[W5.heap.size]?=some (.cells #[.pointer (some ⟨t,0,none⟩)] 25 (0,0)):=by rw[hWa,<- hs0];exact z0c (z0a _ _)
   have hq:Wa.heap[W5.heap.size+1]?=some (.cells #[.int .i64 (an n),.int .u32 (lt n).agen] 36 (0,0)):=by rw[hWa,<- hs1];exact z0a _ _
   rw[<- hWa]
   have hsa:Wa.heap.size=W5.heap.size+2:=by rw[hWa];simp
   clear hs0 hs1 hWa
   have hn5:n₀<=W5.heap.size:=by omega
   have hnm5:∀ k,W5.heap.size<=k->¬ Mine Wa k:=fun k hk hm=>by
    have h1:=hMine.lt HX5.out (hMine.grow HX5.out hn5 (z0w hbA) (fun r e=>by cases e) hm)
    omega
   have HSEQ:=hid (all_own (sb:=sb) (sg:=sg) (kb:=kb) (km:=km) HREL.out Mine hMine (HP.out n hnm) (HQ.out n hnm).1 (HQ.out n hnm).2 W5.heap.size Wa hp hq hn5 (hnm5 _ (Nat.le_refl _)) (hnm5 _ (by omega)) (hMine.xb HX5.out hn5 hbA))
   have e5:∀ {k:Nat} {o:Obj},W5.heap[k]?=some o->Wa.heap[k]?=some o:=fun h=>(hbA.block _ (lt_of_block h)).trans h
   have hBA:=hid (And.intro (e5 hBL5.out.1) (And.intro (e5 hBL5.out.2.1) (And.intro (e5 hBL5.out.2.2.1) (e5 hBL5.out.2.2.2))))
   have hMA:=hid (And.intro (hMine.priv HX5.out hn5 hMM5.out.1 hbA) (And.intro (hMine.priv HX5.out hn5 hMM5.out.2.1 hbA) (And.intro (hMine.priv HX5.out hn5 hMM5.out.2.2.1 hbA) (hMine.priv HX5.out hn5 hMM5.out.2.2.2 hbA))))
   have HMKa:=hid (HMK5.out.below hbA)
   have HJa:=hid (own_below hJ HJ5.out hbA)
   have hxa:=hMine.xb HX5.out hn5 hbA
   have hsplit:z0t lt Es=((TT.take j).flatMap fun n=>z1d n (Es n))++(z1d n (Es n)++(TT.drop (j+1)).flatMap fun n=>z1d n (Es n)):=by
    obtain⟨h1,h2⟩:=List.getElem?_eq_some_iff.1 HJN.out
    unfold z0t
    rw[hTT]
    conv=>lhs;rw[<- List.take_append_drop j TT,List.drop_eq_getElem_cons h1,h2]
    rw[List.flatMap_append,List.flatMap_cons]
   have hsucc:(TT.take (j+1)).flatMap (fun n=>z1d n (Es n))=((TT.take j).flatMap fun n=>z1d n (Es n))++z1d n (Es n):=by
    rw[List.take_add_one,HJN.out,List.flatMap_append]
    simp
   generalize ((TT.take j).flatMap fun n=>z1d n (Es n))=pf at *
   generalize W5.heap.size=H at *
   have hUVH:U<V/\V<H/\A<H:=⟨by omega,by omega,by omega⟩
   have hGH:=lt_of_block hBA.out.2.2.1
   have hWaU:U+1<=Wa.heap.size:=by omega
   have hI:OwnFrom Wa.heap.size (fun (pre:Ents) W=>J (pf++z1d n pre) W/\(W.heap[A]?=some (.cells #[.pointer (some ⟨x,0,none⟩)] 24 (0,0))/\W.heap[U]?=some (.cells #[.func (.yield LL) #[] #[]] 121 (0,0))/\W.heap[G]?=some (.cells cs 3 fr)/\W.heap[V]?=some (.cells #[.string (z2u n)] 9 (0,0)))/\(¬ Mine W A/\¬ Mine W U/\¬ Mine W G/\¬ Mine W V)/\Marks (U+1) ds W):=by
    intro s A' C row hs hg hr
    have e:∀ (k:Nat),k<Wa.heap.size->k<A'.heap.size->C.heap[k]?=A'.heap[k]?:=fun k hk hA=>hg.block k hA (fun e=>by have:=(hr k e.symm).1;omega)
    obtain⟨h1,⟨c1,c2,c3,c4⟩,⟨m1,m2,m3,m4⟩,h4⟩:=hs
    have hnA:n₀<=A'.heap.size:=by have:=lt_of_block c1;omega
    have gm:∀ k,Mine C k->Mine A' k:=fun k=>hMine.grow (HC.out _ _ h1).g hnA hg (fun r e=>⟨by have:=(hr r e).1;omega,(hr r e).2⟩)
    exact⟨hJ _ A' C row h1 hg (fun r e=>⟨by have:=(hr r e).1;omega,(hr r e).2⟩),⟨(e _ (by omega) (lt_of_block c1)).trans c1,(e _ (by omega) (lt_of_block c2)).trans c2,(e _ hGH (lt_of_block c3)).trans c3,(e _ (by omega) (lt_of_block c4)).trans c4⟩,⟨fun h=>m1 (gm _ h),fun h=>m2 (gm _ h),fun h=>m3 (gm _ h),fun h=>m4 (gm _ h)⟩,h4.grown hg (fun r e=>(hr r e).1) (fun d hd D e=>HMKa.out.lt d hd D e)⟩
   have hX:OwnFrom Wa.heap.size (fun (pre:Ents) W=>Jx (pf++z1d n pre) W/\Marks (U+1) ds W):=by
    intro s A' C row hs hg hr
    exact⟨hJx _ A' C row hs.1 hg (fun r e=>⟨by have:=(hr r e).1;omega,(hr r e).2⟩),hs.2.grown hg (fun r e=>(hr r e).1) (fun d hd D e=>HMKa.out.lt d hd D e)⟩
   have hCj:∀ (pre:Ents) W1,(J (pf++z1d n pre) W1/\(W1.heap[A]?=some (.cells #[.pointer (some ⟨x,0,none⟩)] 24 (0,0))/\W1.heap[U]?=some (.cells #[.func (.yield LL) #[] #[]] 121 (0,0))/\W1.heap[G]?=some (.cells cs 3 fr)/\W1.heap[V]?=some (.cells #[.string (z2u n)] 9 (0,0)))/\(¬ Mine W1 A/\¬ Mine W1 U/\¬ Mine W1 G/\¬ Mine W1 V)/\Marks (U+1) ds W1)->AllC X wz lp (Zs n) t sb sg kb km W1:=fun pre W1 h=>(HC.out _ _ h.1).one (hTT ▸ hnm)
   have h0:J (pf++z1d n []) Wa:=by unfold z1d;rw[List.map_nil,List.append_nil];exact HJa.out
   have HI:=hid hI
   have HX:=hid hX
   have HCJ:=hid hCj
   have H0:=hid (And.intro h0 (And.intro hBA.out (And.intro hMA.out HMKa.out)))
   have HSU:=hid hsucc
   have HSP:=hid hsplit
   have HML:Hid (∀ i,Mine Wa i->i<Wa.heap.size):=hid (fun _=>hMine.lt hxa)
   clear hxa HX5 hI hX hCj h0 hBA hMA HJa hp hq hbA hnm5 hsucc hsplit e5 hBL5 hMM5 HMK5 HTB HJ5 HPB HSN
   refine range_ownC (n:=8) (by decide) (gf:=84) (lb:=#[.pointer (some ⟨H,0,none⟩),.pointer (some ⟨(H+1),0,none⟩)]) rfl (enters_of Tryz.func84 (by kernel_rfl) rfl) Mine hMine (fun _ W=>AllC X wz lp (Zs n) t sb sg kb km W) (fun _ _ h=>h.x) HSEQ.out (by omega) HML.out (Below.refl _ _) (fun _=>rfl)
    (fun (pre:Ents) W=>J (pf++z1d n pre) W/\(W.heap[A]?=some (.cells #[.pointer (some ⟨x,0,none⟩)] 24 (0,0))/\W.heap[U]?=some (.cells #[.func (.yield LL) #[] #[]] 121 (0,0))/\W.heap[G]?=some (.cells cs 3 fr)/\W.heap[V]?=some (.cells #[.string (z2u n)] 9 (0,0)))/\(¬ Mine W A/\¬ Mine W U/\¬ Mine W G/\¬ Mine W V)/\Marks (U+1) ds W) (fun (pre:Ents) W=>Jx (pf++z1d n pre) W/\Marks (U+1) ds W) HI.out HX.out HCJ.out H0.out
    (fun (e:ByteArray × ByteArray) a' _=>a'={ tmps:=#[.func (.yield LL) #[] #[],.pointer (some ⟨A,0,none⟩),.pointer (some ⟨U,0,none⟩),undef,.int .i64 n,.pointer (some ⟨V,0,none⟩),.int .i64 0,.string e.1,.string e.2,.pointer (some ⟨x,0,none⟩),.slice (some ⟨G,0,none⟩) TT.length sc,.int .i64 TT.length,.int .i64 j,.bool true,.pointer (some ⟨G,j,none⟩),.int .i64 n,.tuple #[.string (z2u n),.int .i64 0],.int .i64 n,.tuple #[.string (z2u n),.int .i64 0],.string (z2u n),.int .i64 0,.pointer (some ⟨x,0,none⟩),.pointer (some ⟨x,0,none⟩),.pointer (some ⟨x,0,none⟩),.pointer (some ⟨x,0,none⟩),.pointer (some ⟨t,0,none⟩),.pointer (some ⟨x,0,none⟩),.int .i64 n,.pointer (some ⟨x,0,none⟩),.pointer (some ⟨x,1,none⟩),.pointer (some ⟨x,1+n * 4,none⟩),.pointer (some ⟨x,1+n * 4+1,none⟩),.agg #[.int .i64 (an n),.int .u32 (lt n).agen],.func (.func 84) #[] #[.pointer (some ⟨H,0,none⟩),.pointer (some ⟨(H+1),0,none⟩)],.string e.1,.string e.2,u36,u37,u38,u39,u40,u41,u42,u43],defers:=[] }) (fun _ _ _ _ _ _ h _ _=>h) ?assign ?body ?done ?stop
   case assign =>
    intro l0 pre e W1 K hi hK
    unfold encE
    gi_wp2_with fail
    exact hK _ _ (KeepsFrom.refl _ _) (KpM.refl _ _ _) hi rfl
   case body =>
    rintro l0 pre e a' W1 hl hrec ⟨hj1,hc,hmm,hmk⟩ rfl hlen1
    have y0:=cell_of hc.2.1 0
    have p0:=cell_of hc.2.2.2 0
    have hes:e.1.size<=1000:=HCS.out n hnm e (hlen1.subset (by simp))
    have hpz:(z2u n).size=8:=rfl
    have hpe:pf++z1d n pre++[(z2u n++e.1,e.2)]=pf++z1d n (pre++[e]):=by unfold z1d;rw[List.map_append,List.append_assoc];rfl
    obtain⟨fn,tmps,assign,body,hy,hR1⟩:=HY.out _ (z2u n++e.1,e.2) _ 5 hj1 (by
     rw[hpe,HSP.out,<- List.append_assoc]
     refine List.IsPrefix.trans ?_ (List.prefix_append _ _)
     rw[List.prefix_append_right_inj]
     exact List.IsPrefix.map _ hlen1)
    unfold encE at hy
    try dsimp only at hy
    rw[hpe] at hR1
    have HRR:=hid (z2w l0 hR1)
    have HCC:=hid hc
    have HMM:=hid hmm
    have HMK:=hid hmk
    clear hR1 hj1 hc hmm hmk hpe hlen1
    gi_wp2_with fail
    refine HRR.out.mono ?_
    rintro ee W3 (⟨rfl,hJ3,hk3,hq3⟩|⟨rfl,hJx3,hq3⟩)
    ·have HQQ:=hid (And.intro hJ3 (And.intro hk3 hq3))
     clear hJ3 hk3 hq3 HRR
     gi_wp2_with fail
     obtain⟨hJ3,hk3,hq3⟩:=HQQ.out
     obtain⟨c1,c2,c3,c4⟩:=HCC.out
     obtain⟨m1,m2,m3,m4⟩:=HMM.out
     refine⟨z0o hq3 (by omega),hk3,hJ3,⟨hk3.cells A _ (by omega) m1 c1 rfl,hk3.cells U _ (by omega) m2 c2 rfl,hk3.cells G _ (by have:=HGN.out;omega) m3 c3 rfl,hk3.cells V _ (by omega) m4 c4 rfl⟩,⟨hk3.priv m1 (lt_of_block c1),hk3.priv m2 (lt_of_block c2),hk3.priv m3 (lt_of_block c3),hk3.priv m4 (lt_of_block c4)⟩,HMK.out.keeps (z0o hq3 (by omega))⟩
    ·have HQQ:=hid (And.intro hJx3 hq3)
     clear hJx3 hq3 HRR
     gi_wp2_with fail
     obtain⟨hJx3,hq3⟩:=HQQ.out
     exact⟨z0o hq3 (by omega),hJx3,HMK.out.keeps (z0o hq3 (by omega))⟩
   case done =>
    rintro D xs W4 hD rfl ⟨hj1,⟨c1,c2,c3,c4⟩,⟨m1,m2,m3,m4⟩,hmk⟩ hK
    have HQQ:=hid (And.intro hj1 (And.intro c1 (And.intro c2 (And.intro c3 (And.intro m1 (And.intro m2 (And.intro m3 (hmk.cons (by omega) hK (fun d hd D' e=>by have:=HMKa.out.lt d hd D' e;omega)))))))))
    clear hj1 c1 c2 c3 c4 m1 m2 m3 m4 hmk hK
    have ht16:=HT16.out
    gi_wp2_with fail
    obtain⟨hj1,c1,c2,c3,m1,m2,m3,hmk⟩:=HQQ.out
    rw[<- HSU.out] at hj1
    exact⟨⟨j+1,_,_,_,_,_,_,_,_,_,_,_,_,_,_,_,_,_,_,_,_,_,_,_,_,_,_,_,_,_,_,_,_,_,_,_,⟨by omega,hj1,⟨c1,c2,fun _=>c3⟩,⟨m1,m2,fun _=>m3⟩,hmk⟩,rfl⟩,by simp[intOf];omega⟩
   case stop =>
    rintro D pre W4 hD hpre ⟨hj1,hmk⟩ hK
    have HQQ:=hid (And.intro hj1 (hmk.cons (by omega) hK (fun d hd D' e=>by have:=HMKa.out.lt d hd D' e;omega)))
    clear hj1 hmk hK
    gi_wp2_with fail
    refine z2t (B:=U+1) (fun W'=>Jx (pf++z1d n pre) W') (fun w' D hD hj hK=>hJx.putObj (.deferred none) hj (by omega) hK rfl) (fun w' hj=>?_) _ W4 HQQ.out.2 HQQ.out.1
    refine⟨_,results_none rfl _ _ _,⟨_,rfl⟩,.inr ⟨_,?_,hj⟩⟩
    rw[HSP.out,<- List.append_assoc]
    refine List.IsPrefix.trans ?_ (List.prefix_append _ _)
    rw[List.prefix_append_right_inj]
    exact List.IsPrefix.map _ hpre
  ·obtain rfl:j=TT.length:=by omega
   gi_wp2_with fail
   have hJf:J (z0t lt Es) wr:=by
    have:=HJS.out
    rw[List.take_length] at this
    unfold z0t
    rw[hTT]
    exact this
   refine z2t (B:=U+1) (fun W'=>J (z0t lt Es) W') (fun w' D hD hj hK=>hJ.putObj (.deferred none) hj (by omega) hK rfl) (fun w' hj=>?_) ds wr HMK.out hJf
   exact⟨_,results_none rfl _ _ _,⟨_,rfl⟩,.inl ⟨_,rfl,hj⟩⟩
end Go.Proofs.YtgdmfledhhoedaaGreatDoor.T
namespace Go.Burg
open Go Go.RowKit
section
variable {P P':List (Cel PNd)} {lt:Nat->Ten} {an:Nat->Nat} {Zs:Nat->Nat->Prop} {Es:Nat->Ents}
theorem freeP_get {x:Nat}:∀ {R:List (Int × Int)} {P:List (Cel PNd)},(∀ r,r∈R->r.1.toNat≠x)->(R.foldl freeP P)[x]?=P[x]?
 | [],_,_=>rfl
 | r :: R,P,h=>by
  rw[List.foldl_cons,freeP_get fun q hq=>h q (List.mem_cons_of_mem _ hq)]
  exact List.getElem?_set_ne (h r (List.mem_cons_self ..))
theorem Chg.free {x:Nat} {g:Int} {q:PNd} (h:z0l P x g x q):Chg P (P.set x ⟨false,zeroP,g⟩) 0:=by
 obtain⟨_,p,h1,h2,h3,_⟩:=h
 have hl:=(List.getElem?_eq_some_iff.1 h1).1
 refine⟨by simp,fun hg y hy=>?_,?_⟩
 ·rcases List.mem_or_eq_of_mem_set hy with hy|rfl
  ·exact hg y hy
  ·have h4:=hg.at h1;have h5:=hg.le h1
   exact⟨show 0<=g by omega,show g<=4294967295 by omega⟩
 ·have hr:p.room=false:=by unfold Cel.room;rw[h2];rfl
  cases hc:(⟨false,zeroP,g⟩:Cel PNd).room with
  | false=>rw[roomN_same h1 hr hc];exact Nat.le_refl _
  | true =>
   have e:=roomN_set (P:=P.set x ⟨false,zeroP,g⟩) (j:=x) (c:=p) (List.getElem?_set_self hl) hc hr
   have e2:(P.set x ⟨false,zeroP,g⟩).set x p=P:=by
    rw[List.set_set]
    obtain⟨_,rfl⟩:=List.getElem?_eq_some_iff.1 h1
    exact List.set_getElem_self hl
   rw[e2] at e
   omega
theorem Chg.freed:∀ {R:List (Int × Int)} {P:List (Cel PNd)},(R.map (·.1)).Nodup->(∀ r,r∈R->∃ x q,r.1=((x:Nat):Int)/\z0l P x r.2 x q)->Chg P (R.foldl freeP P) 0
 | [],P,_,_=>Chg.refl P
 | r :: R,P,hn,h=>by
  rw[List.map_cons,List.nodup_cons] at hn
  obtain⟨x,q,e,hl⟩:=h r (List.mem_cons_self ..)
  have e1:freeP P r=P.set x ⟨false,zeroP,r.2⟩:=by unfold freeP;rw[e];rfl
  rw[List.foldl_cons,e1]
  refine (Chg.free hl).trans (Chg.freed hn.2 fun r' hr'=>?_) rfl
  obtain⟨y,q',e',hl'⟩:=h r' (List.mem_cons_of_mem _ hr')
  refine⟨y,q',e',hl'.same (List.getElem?_set_ne fun exy=>hn.1 ?_)⟩
  rw[List.mem_map]
  exact⟨r',hr',by rw[e',e,exy]⟩
theorem Tens.remove (h:Tens P lt an Zs Es) {n p:Nat} {R:List (Int × Int)} {g:Int} (_hp:(lt n).purse=some p) (hR:Post P (an n) (lt n).agen (Zs n) R (Es n)) :
 Tens (R.foldl freeP P) (upd lt n ⟨g,0,0,none⟩) an (updF Zs n fun _=>False) (updF Es n []):=by
 have hf:∀ m y,m≠n->Zs m y->(R.foldl freeP P)[y]?=P[y]?:=fun m y hm hy=>freeP_get fun r hr e=>by
  obtain⟨x,q,e1,h2,_⟩:=hR.mem r hr
  rw[e1] at e
  simp at e
  subst e
  exact h.dis m n x hm hy h2
 refine⟨fun m q hq=>?_,fun m hm=>?_,fun m k y hmk hy hy'=>?_⟩
 ·by_cases e:m=n
  ·subst e
   simp[upd] at hq
  ·simp only[upd,updF,if_neg e] at hq ⊢
   obtain⟨a,b⟩:=h.ten m q hq
   exact⟨a,b.frame fun y hy=>hf m y e hy⟩
 ·by_cases e:m=n
  ·subst e
   rw[z1k,z1k]
   exact⟨fun _ h=>h,rfl⟩
  ·simp only[upd,updF,if_neg e] at hm ⊢
   exact h.non m hm
 ·by_cases e:m=n
  ·subst e
   rw[z1k] at hy
   exact hy
  ·rw[z1l _ _ e] at hy
   by_cases e':k=n
   ·subst e'
    rw[z1k] at hy'
    exact hy'
   ·rw[z1l _ _ e'] at hy'
    exact h.dis m k y hmk hy hy'
end
def ofTen (n:Nat) (e:ByteArray × ByteArray):Bool:=decide (7<e.1.size) && decide ((byt e.1)[7]?=some (UInt8.ofNat n))
def z2r (n:Nat) (E:Ents):List ByteArray:=E.flatMap fun e=>if ofTen n e then [e.1,e.2] else []
theorem listT_app (n:Nat) (A B:Ents):z2r n (A++B)=z2r n A++z2r n B:=List.flatMap_append ..
theorem byt7 (m:Nat) (c:ByteArray):(byt (z2u m++c))[7]?=some (UInt8.ofNat m):=by
 rw[byt_app]
 rfl
variable {m n:Nat}
theorem ofTen_path (hn:n<=16) (hm:m<=16) (c v:ByteArray):ofTen n (z2u m++c,v)=decide (m=n):=by
 have hs:7<(z2u m++c).size:=by
  have h1:(z2u m).size=8:=rfl
  rw[ByteArray.size_append]
  omega
 unfold ofTen
 rw[byt7,decide_eq_true hs,Bool.true_and]
 by_cases e:m=n
 ·subst e;simp
 ·rw[decide_eq_false e]
  refine decide_eq_false fun h=>e ?_
  have:=congrArg UInt8.toNat (Option.some.inj h)
  simp at this
  omega
theorem listT_paths (hn:n<=16) (hm:m<=16) (E:Ents):z2r n (z1d m E)=if m=n then (z1d n E).flatMap fun e=>[e.1,e.2] else []:=by
 unfold z2r z1d
 rw[List.flatMap_map]
 by_cases e:m=n
 ·subst e
  rw[if_pos rfl,List.flatMap_map]
  congr 1
  funext x
  rw[ofTen_path hn hm,decide_eq_true rfl,if_pos rfl]
 ·rw[if_neg e]
  refine List.flatMap_eq_nil_iff.2 fun x _=>?_
  rw[ofTen_path hn hm,decide_eq_false e,if_neg (by simp)]
theorem listT_all {lt:Nat->Ten} {Es:Nat->Ents} (hn:n∈tens lt 16):z2r n (z0t lt Es)=(z1d n (Es n)).flatMap fun e=>[e.1,e.2]:=by
 have hn16:=(z2d.1 hn).2.1
 have hb:∀ m,m∈tens lt 16->m<=16:=fun m hm=>(z2d.1 hm).2.1
 have hnd:(tens lt 16).Nodup:=by
  unfold tens
  refine List.Pairwise.filter _ ?_
  rw[List.pairwise_map]
  exact (List.pairwise_lt_range (n:=16)).imp fun h=>by omega
 unfold z0t z2r
 rw[List.flatMap_assoc]
 generalize tens lt 16=T at *
 induction T with
 | nil=>cases hn
 | cons m T ih =>
  rw[List.flatMap_cons]
  have hm:=listT_paths hn16 (hb m (List.mem_cons_self ..)) (Es m)
  unfold z2r at hm
  rw[hm]
  rw[List.nodup_cons] at hnd
  by_cases e:m=n
  ·subst e
   rw[if_pos rfl]
   have:(T.flatMap fun x=>(z1d x (Es x)).flatMap fun e=>if ofTen m e then [e.1,e.2] else [])=[]:=by
    refine List.flatMap_eq_nil_iff.2 fun x hx=>?_
    have hx2:=listT_paths hn16 (hb x (List.mem_cons_of_mem _ hx)) (Es x)
    unfold z2r at hx2
    rw[hx2,if_neg fun (e:x=m)=>hnd.1 (e ▸ hx)]
   rw[this,List.append_nil]
  ·rw[if_neg e,List.nil_append]
   exact ih ((List.mem_cons.1 hn).resolve_left fun h=>e h.symm) (fun m hm=>hb m (List.mem_cons_of_mem _ hm)) hnd.2
def strL (l:List ByteArray):List Value:=l.map Value.string
theorem strL_app (a b:List ByteArray):strL (a++b)=strL a++strL b:=by simp[strL]
theorem row_cells {w:World} {B:Nat} {e:TypeId} {v:Value} {xs:List Value} (h:w.ownsRow B e 1 v n xs):∃ a cap,v=.slice a n cap/\∀ i y,xs[i]?=some y->∃ g,a=some ⟨g,0,none⟩/\g<w.heap.size/\w.cell? ⟨g,i,none⟩=some y:=by
 have h':=h
 obtain⟨h1,⟨rfl,rfl⟩|⟨g,cap,cur,rfl,_,hg,_⟩⟩:=h
 ·refine⟨none,0,rfl,fun i y hy=>?_⟩
  have hl:xs=[]:=List.eq_nil_of_length_eq_zero (by omega)
  rw[hl] at hy
  cases hy
 ·refine⟨_,cap,rfl,fun i y hy=>⟨g,rfl,lt_of_block hg,?_⟩⟩
  have hi:=(List.getElem?_eq_some_iff.1 hy).1
  rw[h'.cellAt i (by omega),hy]
end Go.Burg
namespace Go.Proofs.YtgdmfledhhoedaaGreatDoor.T
set_option maxRecDepth 8000
open Go.ChangeShapes Go.WideShapes Go.ChangeAt Go.RowKit Go.Burg
theorem same_at {B1 B2:Nat} {u1 u2:Value} {l:List ByteArray} (w:World) (h1:w.ownsRow B1 9 1 u1 l.length (strL l)) (h2:w.ownsRow B2 9 1 u2 l.length (strL l)) (hl:l.length<=1000000) :
 Calls Tryz.prog 20 #[u1,u2] w fun e w'=>e=.returned (.bool true)/\Below w.heap.size w w':=by
 obtain⟨a1,c1,rfl,k1⟩:=row_cells h1
 obtain⟨a2,c2,rfl,k2⟩:=row_cells h2
 have H1:=hid k1
 have H2:=hid k2
 have e0:((l.length:Int) == (l.length:Int))=true:=by simp
 clear h1 h2 k1 k2
 go_enter Tryz.func20,Tryz.ntmps20
 go_wp2_with fail
 go_loopw [5] (fun iv wr=>∃ k:Nat,k<=l.length/\iv=.int .i64 k/\Below w.heap.size w wr) (fun iv _=>l.length - (intOf iv).toNat)
 case atStart=>exact⟨0,Nat.zero_le _,rfl,Below.refl _ _⟩
 case round =>
  obtain⟨k,hk,rfl,hb⟩:=hrel
  by_cases hkl:k<l.length
  ·have hd:decide ((k:Int)<(l.length:Int))=true:=by simp;exact hkl
   have hy:(strL l)[k]?=some (.string l[k]):=by simp[strL,hkl]
   obtain⟨g1,rfl,b1,q1⟩:=H1.out k _ hy
   obtain⟨g2,rfl,b2,q2⟩:=H2.out k _ hy
   have r1:=(World.cell?_of_block (w:=w) (hb.block g1 b1)).trans q1
   have r2:=(World.cell?_of_block (w:=w) (hb.block g2 b2)).trans q2
   generalize l[k]=y at *
   have HB:=hid hb
   clear hb b1 b2 q1 q2 hy H1 H2
   go_wp2_with fail
   go_quiet (fail)
   go_wp2_with fail
   go_roundw
   case rel=>exact⟨k+1,hkl,by go_num,below_drewN HB.out⟩
   case measure=>simp[intOf];omega
  ·have hd:decide ((k:Int)<(l.length:Int))=false:=by simp;omega
   have HB:=hid hb
   clear hb H1 H2
   go_wp2_with fail
   go_ret
   exact⟨rfl,HB.out⟩
open Go.Burg.Lk Go.Shelf
attribute [local go_sem] Oper.semAt_some
open D (MineAt mineAt_ok own_blk own_mod' own_ge' own_sl addr_ad)
variable {k n n₀ o:Nat} {v v':Value} {w2:World}
theorem row_round {B s m:Nat} {e T:TypeId} {xs ys:List Value} {W:World} {o':Obj} (h1:W.heap[o]?=some (.cells #[v] T (0,0))) (hv:W.ownsRow B e s v n xs) (ho:o<B) (hB:B<=W.heap.size)
 (g1:w2.ownsRow B e s v' m ys) (g2:(W.alloc o').grownBy w2 v.ownBlock) (g4:v'.ownBlock=v.ownBlock\/v'.ownBlock=some (W.heap.size+1)) :
 w2.heap[o]?=some (.cells #[v] T (0,0))/\(w2.setCell ⟨o,0,none⟩ v').heap[o]?=some (.cells #[v'] T (0,0))/\(w2.setCell ⟨o,0,none⟩ v').ownsRow B e s v' m ys/\Mod (fun k=>v.ownBlock=some k\/k=o) W (w2.setCell ⟨o,0,none⟩ v') /\
  (∀ d,o<d->KeepsFrom d W (w2.setCell ⟨o,0,none⟩ v'))/\∀ n₀,o<n₀->KpM n₀ (MineAt o) W (w2.setCell ⟨o,0,none⟩ v'):=by
 have hA:Mod (fun _=>False) W (W.alloc o'):=⟨rfl,rfl,rfl,by simp,fun k hk _=>Below.heap_alloc _ _ _ hk⟩
 have hG:Mod (fun k=>v.ownBlock=some k) (W.alloc o') w2:=⟨g2.os,g2.tape,g2.output,g2.size,fun k hk hn=>g2.block k hk (fun e=>hn e.symm)⟩
 have hW2:Mod (fun k=>v.ownBlock=some k) W w2:=(hA.mono fun _ _ h=>h.elim).trans hG (fun _ _ h=>h)
 have hM:Mod (fun k=>v.ownBlock=some k\/k=o) W (w2.setCell ⟨o,0,none⟩ v'):=Mod.setCell (S:=fun k=>v.ownBlock=some k\/k=o) (p:=⟨o,0,none⟩) (hW2.mono fun _ _ h=>.inl h) (.inl (.inr rfl)) _
 have hge:∀ k,v.ownBlock=some k->B<=k:=fun k hk=>(own_ge' hv hk).1
 have ho2:w2.heap[o]?=some (.cells #[v] T (0,0)):=(hW2.block _ (lt_of_block h1) (fun e=>by have:=hge _ e;omega)).trans h1
 have ho3:(w2.setCell ⟨o,0,none⟩ v').heap[o]?=some (.cells #[v'] T (0,0)):=by
  have:=heap_set (i:=0) (v:=v') ho2
  simpa using this
 have hMs:Mod (·=o) w2 (w2.setCell ⟨o,0,none⟩ v'):=Mod.setCell (S:=(·=o)) (p:=⟨o,0,none⟩) (Mod.refl _ _) (.inl rfl) _
 have no:∀ k ob,v.ownBlock=some k->W.heap[k]?=some ob->ob.isCells=true:=fun k ob hk hob=>by
  obtain⟨_,_,_,o2,h2,h3⟩:=own_blk hv hk
  rw[hob] at h2
  cases h2
  exact h3
 refine⟨ho2,ho3,own_mod' g1 hMs (fun k hk e=>by have:=(own_ge' g1 hk).1;have:k=o:=e;omega),hM,fun d hd=>⟨hM.size,fun k ob hk hok hoc=>?_⟩,fun n₀ hn=>⟨hM.size,fun i ob hi hm hok hoc=>?_,fun i hm=>?_⟩⟩
 ·refine (hM.block k (lt_of_block hok) (fun e=>?_)).trans hok
  rcases e with e|e
  ·rw[no k ob e hok] at hoc
   cases hoc
  ·omega
 ·refine (hM.block i (lt_of_block hok) (fun e=>?_)).trans hok
  rcases e with e|e
  ·obtain⟨n',c,e2,_⟩:=own_blk hv e
   exact hm ⟨n',c,by rw[cell_of h1 0,e2];rfl⟩
  ·omega
 ·obtain⟨n,c,hm⟩:=hm
  rw[cell_of ho3 0] at hm
  have e:v'=.slice (some ⟨i,0,none⟩) n c:=by simpa using hm
  rw[e] at g4
  rcases g4 with g4|g4
  ·obtain⟨n',c',e2,_⟩:=own_blk hv (g4.symm.trans rfl)
   exact .inl ⟨n',c',by rw[cell_of h1 0,e2];rfl⟩
  ·simp only[Value.ownBlock,Option.some.injEq] at g4
   exact .inr (by omega)
def SaneAt (o:Nat) (W:World):Prop:=∀ i,MineAt o W i->i<W.heap.size
theorem mineAt_x (h:o<n₀):MineX n₀ (MineAt o) (SaneAt o) :=
 ⟨fun _=>(mineAt_ok h).grow,fun hx hn hg hr i hm=>Nat.lt_of_lt_of_le (hx i ((mineAt_ok h).grow hn hg hr hm)) hg.size,fun hx=>hx _⟩
structure BelS (u n:Nat) (w:World) (pre:Ents) (W:World):Prop where
 nb:W.heap[u]?=some (.cells #[.int .u8 n] 5 (0,0))
 o:∃ v,W.heap[u+1]?=some (.cells #[v] 22 (0,0))/\W.ownsRow (u+1+1) 9 1 v (z2r n pre).length (strL (z2r n pre))
 b:Below u w W
 z:u+1+1+1<=W.heap.size
variable {S:Nat->Prop}
section
variable {u n:Nat} {w W W':World} {pre:Ents}
theorem BelS.mod (h:BelS u n w pre W) (hM:Mod S W W') (h0:∀ k,S k->u<=k/\k≠u/\k≠u+1) (hr:∀ v,W.ownsRow (u+1+1) 9 1 v (z2r n pre).length (strL (z2r n pre))->∀ k,v.ownBlock=some k->¬ S k):BelS u n w pre W':=by
 obtain⟨v,h1,h2⟩:=h.o
 refine⟨(hM.block u (lt_of_block h.nb) (fun e=>(h0 _ e).2.1 rfl)).trans h.nb,⟨v,(hM.block _ (lt_of_block h1) (fun e=>(h0 _ e).2.2 rfl)).trans h1,own_mod' h2 hM (hr v h2)⟩,?_,Nat.le_trans h.z hM.size⟩
 exact h.b.trans ⟨hM.os,hM.tape,hM.output,hM.size,fun k hk=>hM.block k (by have:=lt_of_block h.nb;omega) (fun e=>by have:=(h0 k e).1;omega)⟩
theorem BelS.own (hn:u+1+1<=n₀):OwnFrom n₀ (BelS u n w):=by
 rintro s A C row h hg hr
 have hMo:Mod (fun k=>row=some k) A C:=⟨hg.os,hg.tape,hg.output,hg.size,fun k hk hn=>hg.block k hk (fun e=>hn e.symm)⟩
 refine h.mod hMo (fun k e=>by have:=(hr k e).1;omega) (fun v hv k hk e=>?_)
 obtain⟨_,o,ho,hoc⟩:=hr k e
 obtain⟨_,_,_,o2,h2,h3⟩:=own_blk hv hk
 rw[ho] at h2
 cases h2
 rw[hoc] at h3
 cases h3
theorem BelS.round {e:ByteArray × ByteArray} {o':Obj} (h:BelS u n w pre W) (h1:W.heap[u+1]?=some (.cells #[v] 22 (0,0))) (hv:W.ownsRow (u+1+1) 9 1 v (z2r n pre).length (strL (z2r n pre))) (he:ofTen n e=true)
 (g1:w2.ownsRow (u+1+1) 9 1 v' ((z2r n pre).length+2) (strL (z2r n pre)++[.string e.1,.string e.2])) (g2:(W.alloc o').grownBy w2 v.ownBlock) (g4:v'.ownBlock=v.ownBlock\/v'.ownBlock=some (W.heap.size+1)) :
 w2.heap[u+1]?=some (.cells #[v] 22 (0,0))/\BelS u n w (pre++[e]) (w2.setCell ⟨u+1,0,none⟩ v')/\KeepsFrom (u+1+1+1) W (w2.setCell ⟨u+1,0,none⟩ v')/\KpM (u+1+1) (MineAt (u+1)) W (w2.setCell ⟨u+1,0,none⟩ v'):=by
 obtain⟨a1,a2,a3,a4,a5,a6⟩:=row_round h1 hv (by omega) (by have:=h.z;omega) g1 g2 g4
 have hx:∀ k,v.ownBlock=some k\/k=u+1->u+1<=k:=fun k e=>e.elim (fun e=>by have:=(own_ge' hv e).1;omega) (fun e=>by omega)
 have el:z2r n (pre++[e])=z2r n pre++[e.1,e.2]:=by rw[listT_app];simp[z2r,he]
 refine⟨a1,⟨(a4.block u (lt_of_block h.nb) (fun e=>by have:=hx _ e;omega)).trans h.nb,⟨v',a2,?_⟩,?_,Nat.le_trans h.z a4.size⟩,a5 _ (by omega),a6 _ (by omega)⟩
 ·rw[el,strL_app,List.length_append]
  exact a3
 ·exact h.b.trans ⟨a4.os,a4.tape,a4.output,a4.size,fun k hk=>a4.block k (by have:=lt_of_block h.nb;omega) (fun e=>by have:=hx _ e;omega)⟩
theorem BelS.sane (h:BelS u n w pre W):SaneAt (u+1) W:=by
 rintro i ⟨m,c,hm⟩
 obtain⟨v,h1,h2⟩:=h.o
 rw[cell_of h1 0] at hm
 have e:v=.slice (some ⟨i,0,none⟩) m c:=by simpa using hm
 exact (own_ge' h2 (by rw[e];rfl)).2
theorem BelS.skip {e:ByteArray × ByteArray} (h:BelS u n w pre W) (he:ofTen n e=false):BelS u n w (pre++[e]) W:=by
 have el:z2r n (pre++[e])=z2r n pre:=by rw[listT_app];simp[z2r,he]
 exact⟨h.nb,by rw[el];exact h.o,h.b,h.z⟩
end
variable {E:Ents} {P:List (Cel PNd)}
theorem ents_le {i:Nat} {g:Int} {R:List (Int × Int)} (h:Post P i g S R E):E.length<=P.length:=by
 have h1:=h.leaves
 have h2:E.length<=R.length:=by rw[<- h1];exact List.length_filterMap_le ..
 have h3:(R.map (·.1.toNat)).Nodup:=by
  have h1:=h.once
  rw[List.Nodup,List.pairwise_map] at h1 ⊢
  refine h1.imp_of_mem ?_
  intro a b ha hb hab e
  obtain⟨x,_,e1,_⟩:=h.mem a ha
  obtain⟨y,_,e2,_⟩:=h.mem b hb
  rw[e1,e2] at e
  simp at e
  exact hab (by rw[e1,e2,e])
 have h4:(R.map (·.1.toNat)) ⊆ List.range P.length:=fun n hn=>by
  obtain⟨r,hr,rfl⟩:=List.mem_map.1 hn
  obtain⟨x,q,e1,_,hl⟩:=h.mem r hr
  have:=hl.lt
  rw[List.mem_range,e1]
  simpa using this
 have:=List.Nodup.length_le_of_subset h3 h4
 simp at this
 omega
theorem flat_le {α β:Type} {f:α->List β} {k:Nat}:∀ {l:List α},(∀ x,x∈l->(f x).length<=k)->(l.flatMap f).length<=l.length * k
 | [],_=>by simp
 | a :: l,h=>by
  rw[List.flatMap_cons,List.length_append,List.length_cons,Nat.add_mul,Nat.one_mul]
  have h1:=h a (List.mem_cons_self ..)
  have h2:=flat_le (f:=f) (k:=k) (l:=l) fun x hx=>h x (List.mem_cons_of_mem _ hx)
  omega
variable {lt:Nat->Ten}
theorem paths_le {Es:Nat->Ents} (h:∀ n,n∈tens lt 16->(Es n).length<=k):(z0t lt Es).length<=16 * k:=by
 have h1:=flat_le (f:=fun n=>z1d n (Es n)) (k:=k) (l:=tens lt 16) fun n hn=>by simp only[z1d,List.length_map];exact h n hn
 have h2:=Nat.mul_le_mul_right k (tens_len lt 16)
 unfold z0t
 omega
theorem listT_le (h:E.length<=k):(z2r n E).length<=2 * k:=by
 have:=flat_le (f:=fun e=>if ofTen n e then [e.1,e.2] else []) (k:=2) (l:=E) fun e _=>by split<;>simp
 unfold z2r
 omega
theorem path_of {Es:Nat->Ents} {e:ByteArray × ByteArray} (h:e∈z0t lt Es):∃ m c,m<=16/\e.1=z2u m++c:=by
 unfold z0t at h
 obtain⟨m,hm,hn⟩:=List.mem_flatMap.1 h
 obtain⟨e0,_,he⟩:=List.mem_map.1 hn
 exact⟨m,e0.1,(z2d.1 hm).2.1,(congrArg Prod.fst he).symm⟩
set_option maxRecDepth 100000 in
set_option maxHeartbeats 8000000 in
theorem below_law {x t sb sg kb km:Nat} {an:Nat->Nat} {L:List (RefK × Wd)} {tk:Int} {Zs:Nat->Nat->Prop} {Es:Nat->Ents} (w:World) (hX:TabAt 87 w x t lt) (hT:z0s w t sb sg kb km P L tk) (hS:Tens P lt an Zs Es) (hl:P.length<=4096) (hn:n<=16) :
 Calls Tryz.prog 14 #[.pointer (some ⟨x,0,none⟩),.int .u8 n] w fun e w'=>(∃ v,e=.returned v/\w'.ownsRow w.heap.size 9 1 v (z2r n (z0t lt Es)).length (strL (z2r n (z0t lt Es))))/\Below w.heap.size w w':=by
 obtain⟨lp,hTA,hRE⟩:=hT
 have hB:Below w.heap.size w (((w.alloc (.cells #[.int .u8 n] 5 (0,0))).alloc (.cells #[.slice none 0 0] 22 (0,0))).alloc (.cells #[.pointer (some ⟨x,0,none⟩)] 24 (0,0))):=(((Below.refl _ _).alloc (Nat.le_refl _) _).alloc (by simp) _).alloc (by simp;omega) _
 have hs1:(w.alloc (.cells #[.int .u8 n] 5 (0,0))).heap.size=w.heap.size+1:=by simp
 have hs2:((w.alloc (.cells #[.int .u8 n] 5 (0,0))).alloc (.cells #[.slice none 0 0] 22 (0,0))).heap.size=w.heap.size+1+1:=by simp
 have hs3:(((w.alloc (.cells #[.int .u8 n] 5 (0,0))).alloc (.cells #[.slice none 0 0] 22 (0,0))).alloc (.cells #[.pointer (some ⟨x,0,none⟩)] 24 (0,0))).heap.size=w.heap.size+1+1+1:=by simp
 have b0:=z0c (o':=(.cells #[.pointer (some ⟨x,0,none⟩)] 24 (0,0))) (z0c (o':=(.cells #[.slice none 0 0] 22 (0,0))) (z0a w (.cells #[.int .u8 n] 5 (0,0))))
 have b1:=z0c (o':=(.cells #[.pointer (some ⟨x,0,none⟩)] 24 (0,0))) (z0a (w.alloc (.cells #[.int .u8 n] 5 (0,0))) (.cells #[.slice none 0 0] 22 (0,0)))
 have b2:=z0a ((w.alloc (.cells #[.int .u8 n] 5 (0,0))).alloc (.cells #[.slice none 0 0] 22 (0,0))) (.cells #[.pointer (some ⟨x,0,none⟩)] 24 (0,0))
 rw[hs1] at b1
 rw[hs2] at b2
 have hlt:x<w.heap.size/\t<w.heap.size/\sb<w.heap.size/\sg<w.heap.size/\kb<w.heap.size/\km<w.heap.size:=⟨hX.lt,lt_of_block hTA.ht,hTA.hs.blt,hTA.hs.glt,hTA.hk.lt.1,hTA.hk.lt.2⟩
 have HTA:=hid (And.intro hX hTA)
 have hRW:=hRE.keep hB
 have hpost:∀ n,∃ R,n∈tens lt 16->Post P (an n) (lt n).agen (Zs n) R (Es n):=fun n=>by
  by_cases hn:n∈tens lt 16
  ·obtain⟨p,hp⟩:=Option.isSome_iff_exists.1 (z2d.1 hn).2.2
   obtain⟨R,hR⟩:=(hS.ten n p hp).2.post
   exact⟨R,fun _=>hR⟩
  ·exact⟨[],fun h=>absurd h hn⟩
 obtain⟨Rs,hRs⟩:=Classical.axiomOfChoice hpost
 have htop:∀ n,∃ q,n∈tens lt 16->z0l P (an n) (lt n).agen (an n) q/\q.planted=true:=fun n=>by
  by_cases hn:n∈tens lt 16
  ·obtain⟨p,hp⟩:=Option.isSome_iff_exists.1 (z2d.1 hn).2.2
   obtain⟨k,pt,Lk,hl⟩:=sub_top (hS.ten n p hp).2
   exact⟨_,fun _=>⟨hl,rfl⟩⟩
  ·exact⟨zeroP,fun h=>absurd h hn⟩
 obtain⟨qs,hqs⟩:=Classical.axiomOfChoice htop
 have hmem:∀ n,n∈tens lt 16->(lt n).slot=(an n:Int)/\Sub P (an n) (lt n).agen true [] (Zs n) (Es n):=fun n hn=>by
  obtain⟨p,hp⟩:=Option.isSome_iff_exists.1 (z2d.1 hn).2.2
  exact hS.ten n p hp
 have hN:=paths_le (Es:=Es) fun n hn=>Nat.le_trans (ents_le (hRs n hn)) hl
 refine (callsIn_wide (n:=8)).1 ?_
 refine callsIn_of_wp_marks Tryz.func14 rfl trivial ?_ rfl
 refine wpIn_wide.2 ?_
 simp only[Tryz.ntmps14,List.size_toArray,List.length_cons,List.length_nil,Nat.reduceAdd,Nat.reduceSub,Array.replicate_succ,Array.replicate_zero,List.push_toArray,List.append_toArray,List.nil_append,List.cons_append]
 go_wp2_with (go_at_call 10;refine (tabAll_at _).mono ?_;rintro e w2 ⟨rfl,rfl⟩)
 generalize (((w.alloc (.cells #[.int .u8 n] 5 (0,0))).alloc (.cells #[.slice none 0 0] 22 (0,0))).alloc (.cells #[.pointer (some ⟨x,0,none⟩)] 24 (0,0)))=Wl at *
 generalize hu:w.heap.size=u at *
 have h0:BelS u n w [] Wl:=⟨b0,⟨_,b1,World.ownsRow_nil _ _ _ _⟩,hB,by omega⟩
 have hsub:=fun n hn=>(hmem n hn).2
 have HSEQ:Hid (SeqOwnC (fun _ W=>TAllC (SaneAt (u+1)) Wl lp Zs lt x t sb sg kb km W) (MineAt (u+1)) Tryz.prog 41 #[.pointer (some ⟨(u+1+1),0,none⟩)] encE (u+1+1) (fun xs=>xs=z0t lt Es) (fun pre=>pre <+: z0t lt Es) Wl) :=
  hid (tall_own hRW (MineAt (u+1)) (mineAt_x (by omega)) (fun n hn=>(hmem n hn).1) hRs hqs (fun n hn e he=>by have:=((hsub n hn).mem e he).2.size;omega) (u+1+1) Wl b2 (Nat.le_refl _) (by
   rintro ⟨m,c,hm⟩
   rw[cell_of b1 0] at hm
   simp at hm) h0.sane)
 have hC:∀ (pre:Ents) W1,(BelS u n w pre W1/\pre <+: z0t lt Es)->TAllC (SaneAt (u+1)) Wl lp Zs lt x t sb sg kb km W1:=fun pre W1 h=>by
  obtain⟨v,o1,o2⟩:=h.1.o
  have hb:∀ {k:Nat} {o:Obj},k<u->w.heap[k]?=some o->W1.heap[k]?=some o:=fun hk ho=>(h.1.b.block _ hk).trans ho
  have hbw:Below w.heap.size w W1:=by rw[hu];exact h.1.b
  refine⟨HTA.out.1.keep hbw,⟨lp,L,tk,HTA.out.2.keep hbw,fun _ _ _ _=>rfl⟩,fun k cs fr hk=>?_,h.1.sane⟩
  have hkl:=lt_of_block hk
  rcases (by omega:k<u\/k=u\/k=u+1\/k=u+1+1) with e|e|e|e
  ·exact hb e ((hB.block k e).symm.trans hk)
  ·rw[e,b0] at hk;cases hk
  ·rw[e,b1] at hk;cases hk
  ·rw[e,b2] at hk;cases hk
 have HI:=hid (fun (pre:Ents) A B row (hs:BelS u n w pre A/\pre <+: z0t lt Es) (hg:A.grownBy B row) (hr:∀ r,row=some r->Wl.heap.size<=r/\∃ o:Obj,A.heap[r]?=some o/\o.isCells=false)=>And.intro (BelS.own (n₀:=Wl.heap.size) (by omega) pre A B row hs.1 hg hr) hs.2)
 have HCC:=hid hC
 have H00:=hid (And.intro h0 (List.nil_prefix (l:=z0t lt Es)))
 have HML:=hid (fun i=>h0.sane i)
 have HN:=hid (Nat.le_trans (listT_le (n:=n) hN) (show 2 * (16 * 4096)<=200000 by omega))
 have HHS:=hid hs3
 have HU:=hid hu
 have HLE:Hid (∀ pre:Ents,pre <+: z0t lt Es->(z2r n pre).length<=200000):=hid fun pre hp=>by
  have:=listT_le (n:=n) (Nat.le_trans hp.length_le hN)
  omega
 have HB:=hid hB
 clear hC h0 hsub hX hS hl hTA hRE hB b0 b1 b2 hlt hRW hpost htop hmem hN hRs hqs HTA hu hs1 hs2 hs3
 refine wpIn_wide.1 (range_ownC (n:=8) (by decide) (gf:=41) (lb:=#[.pointer (some ⟨(u+1+1),0,none⟩)]) rfl (enters_of Tryz.func41 (by kernel_rfl) rfl) (MineAt (u+1)) (mineAt_x (by omega)) (fun _ W=>TAllC (SaneAt (u+1)) Wl lp Zs lt x t sb sg kb km W) (fun _ _ h=>h.g) HSEQ.out (by have:=HHS.out;omega) HML.out (Below.refl _ _) (fun _=>rfl)
  (fun pre W=>BelS u n w pre W/\pre <+: z0t lt Es) (fun _ _=>False) HI.out (ownFrom_pure _ _) HCC.out H00.out
  (fun e a' _=>a'=({ tmps:=#[.pointer (some ⟨x,0,none⟩),.int .u8 n,undef,.pointer (some ⟨u,0,none⟩),.slice none 0 0,.pointer (some ⟨(u+1),0,none⟩),.string e.1,.string e.2,.pointer (some ⟨x,0,none⟩),.func (.func 41) #[] #[.pointer (some ⟨(u+1+1),0,none⟩)],.string e.1,.string e.2,undef,undef,undef,undef,undef,undef,undef,undef,undef,undef,undef,undef,undef,undef,undef],defers:=[] }:Act)) (fun _ _ _ _ _ _ h _ _=>h) ?assign ?body ?done ?stop)
 case assign =>
  intro l0 pre e W1 K hi hK
  unfold encE
  gi_wp2_with fail
  exact hK _ _ (KeepsFrom.refl _ _) (KpM.refl _ _ _) hi rfl
 case body =>
  rintro l0 pre ⟨e1,e2⟩ a' W1 hl hrec hIp rfl hlen
  obtain⟨m,c,hm16,he⟩:=path_of (e:=(e1,e2)) (hlen.subset (by simp))
  simp only at he
  have hof:=ofTen_path (n:=n) hn hm16 c e2
  have hsz:((z2u m++c).size:Int) > 7:=by
   have h1:(z2u m).size=8:=rfl
   rw[ByteArray.size_append]
   omega
  have hr:∀ w,(Instr.index 9 (.string (z2u m++c)) (.int .i64 7)).run Tryz.prog w=.ok (.int .u8 m) w:=fun w=>by
   have:=run_byte w 9 (z2u m++c) 7 (UInt8.ofNat m) (P:=Tryz.prog) (by kernel_rfl) (byt7 m c)
   rwa [show (((UInt8.ofNat m).toNat:Nat):Int)=m by simp;omega] at this
  rw[<- he] at hof hsz hr
  have hd:decide ((e1.size:Int) > 7)=true:=by simpa using hsz
  have HIP:=hid hIp
  have HLEN:=hid hlen
  have HOF:=hid hof
  have HNB:=hid hIp.1.nb
  have HSZ:=hid (show u+1+1<=W1.heap.size by have:=hIp.1.z;omega)
  clear hIp hlen he hsz hof
  by_cases hmn:m=n
  ·have hq:((m:Int) == (n:Int))=true:=by simp[hmn]
   have HOF:=hid (HOF.out.trans (decide_eq_true hmn))
   clear hmn
   gi_wp2_with fail
   refine rgn_seq (fok_round _ _) (by kernel_rfl) 9 (fun w1=>Below (W1).heap.size (W1) w1) (by kernel_rfl) (by kernel_rfl) (by kernel_rfl) ⟨rfl,rfl,rfl,Nat.le_refl _,fun _ _=>rfl⟩ ?_
   dsimp only[List.take]
   iterate 9
    refine Seq.cons (a':=?_) ?_ ?_ ?_
    rotate_left
    ·intro w1 hw1
     have n0:=cell_of ((hw1.block u (lt_of_block HNB.out)).trans HNB.out) 0
     go_wp2_with (fail)
     refine⟨?_,by first|assumption|(simpa using z0d hw1 hb hw1.size)⟩
     exact rfl
    ·kernel_rfl
   refine SeqI.nil ?_
   intro _ w1 _ hw1
   dsimp only[List.drop]
   have hI1:=HI.out _ _ _ none HIP.out (z0w hw1) (fun r e=>by cases e)
   have HK1:=hid (And.intro (z1n (B:=Wl.heap.size) hw1) ((mineAt_x (o:=u+1) (n₀:=u+1+1) (by omega)).below HIP.out.1.sane HSZ.out hw1))
   obtain⟨v,h1,hv⟩:=hI1.1.o
   obtain⟨i1,hi1,hz1,hs1,hby1⟩:=info_parts (P:=Tryz.prog) (e:=9) (z:=.string ⟨#[]⟩) (size:=1) (bytes:=16) (by kernel_rfl)
   have HI1:=hid hi1
   have HZ1:=hid hz1
   have HS1:=hid hs1
   have HY1:=hid hby1
   have HB1:=hid hI1.1
   have H1:=hid h1
   have HV:=hid hv
   have HZW:=hid hI1.1.z
   have q0:=cell_of h1 0
   have HNEW:=hid (z0a w1 (.cells #[.string e1,.string e2] 9 (0,0)))
   have HLL:=hid (HLE.out pre hI1.2)
   clear hi1 hz1 hs1 hby1 hI1 h1 hv hw1 HNB hr hd hq HIP
   gi_wp2_with (refine wpListIn_append_own_at (w1.alloc (.cells #[.string e1,.string e2] 9 (0,0))) rfl (.tmp 21) (.tmp 24) 22 rfl (u+1+1) 9 i1 (.string ⟨#[]⟩) 1 16 Tryz.underlying22 HI1.out HZ1.out HS1.out HY1.out rfl (by decide) v (z2r n pre).length (strL (z2r n pre)) (by kernel_rfl) (HV.out.alloc _) ⟨w1.heap.size,0,none⟩ 2 2 [.string e1,.string e2] (by kernel_rfl) rfl (fun j z hj=>by rw[addr_ad,Nat.zero_add,cell_of HNEW.out,List.getElem?_toArray];exact hj) (by simp[Value.oneCell']) (by have:=HLL.out;simp[maxLen];omega) (by have:=HLL.out;omega) (by have:=HZW.out;simp;omega) ?_)
   intro v' w2 g1 g2 _ g4
   obtain⟨ho2,hI3,hk3,hp3⟩:=BelS.round (e:=(e1,e2)) HB1.out H1.out HV.out HOF.out g1 g2 g4
   obtain⟨a3,c3,rfl⟩:=own_sl g1
   clear q0
   have q1:=cell_of ho2 0
   have qf:=z0e ho2
   have HE:=hid (And.intro hk3 (And.intro hp3 hI3))
   clear ho2 hI3 hk3 hp3 g1 g2 g4
   gi_wp2_with fail
   exact⟨HK1.out.1.trans (z0o HE.out.1 (by have:=HHS.out;omega)),HK1.out.2.trans HE.out.2.1,HE.out.2.2,HLEN.out⟩
  ·have hq:((m:Int) == (n:Int))=false:=beq_false_of_ne (by omega)
   have HOF:=hid (HOF.out.trans (decide_eq_false hmn))
   clear hmn
   gi_wp2_with fail
   refine rgn_seq (fok_round _ _) (by kernel_rfl) 9 (fun w1=>Below (W1).heap.size (W1) w1) (by kernel_rfl) (by kernel_rfl) (by kernel_rfl) ⟨rfl,rfl,rfl,Nat.le_refl _,fun _ _=>rfl⟩ ?_
   dsimp only[List.take]
   iterate 9
    refine Seq.cons (a':=?_) ?_ ?_ ?_
    rotate_left
    ·intro w1 hw1
     have n0:=cell_of ((hw1.block u (lt_of_block HNB.out)).trans HNB.out) 0
     go_wp2_with (fail)
     refine⟨?_,by first|assumption|(simpa using z0d hw1 hb hw1.size)⟩
     exact rfl
    ·kernel_rfl
   refine SeqI.nil ?_
   intro _ w1 _ hw1
   dsimp only[List.drop]
   have hI1:=HI.out _ _ _ none HIP.out (z0w hw1) (fun r e=>by cases e)
   have HK1:=hid (And.intro (z1n (B:=Wl.heap.size) hw1) (And.intro ((mineAt_x (o:=u+1) (n₀:=u+1+1) (by omega)).below HIP.out.1.sane HSZ.out hw1) (hI1.1.skip HOF.out)))
   clear hI1 hw1 HNB hr hd hq HIP
   gi_wp2_with fail
   exact⟨HK1.out.1,HK1.out.2.1,HK1.out.2.2,HLEN.out⟩
 case done =>
  rintro D xs W4 hD rfl ⟨hI,_⟩ hK
  obtain⟨v,h1,hv⟩:=hI.o
  obtain⟨a3,c3,rfl⟩:=own_sl hv
  have q0:=cell_of h1 0
  have HV:=hid hv
  have HBW:=hid hI.b
  have HDK:=hid hK
  clear h1 hv hI hK
  go_wp2_with fail
  refine⟨by simp,.inl ⟨_,_,rfl,run_takeDeferred HDK.out,?_⟩⟩
  have hg:=grownBy_putObj' W4 D (.deferred none)
  have hv2:=own_mod' (S:=fun k=>D=k) HV.out ⟨hg.os,hg.tape,hg.output,hg.size,fun k hk hn=>hg.block k hk (fun e=>hn (Option.some.inj e).symm)⟩ (fun k hk e=>by
   subst e
   obtain⟨_,_,_,o,ho,hoc⟩:=own_blk HV.out hk
   rw[HDK.out] at ho
   cases ho
   cases hoc)
  have hgb:Below u W4 (W4.putObj D (.deferred none)):=⟨hg.os,hg.tape,hg.output,hg.size,fun k hk=>(World.putObj_heap_other (by have:=HHS.out;omega))⟩
  refine⟨.slice a3 (z2r n (z0t lt Es)).length c3,by simp[results,Tryz.results14,go_sem],⟨_,rfl,?_⟩,?_⟩
  ·rw[HU.out]
   exact z2g hv2 (by omega)
  ·rw[HU.out]
   exact HBW.out.trans hgb
 case stop=>exact fun D pre W hD hp h hk=>h.elim
end Go.Proofs.YtgdmfledhhoedaaGreatDoor.T
