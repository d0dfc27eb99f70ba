/- Part 22 of 27. -/
import Derived.Test.YtgdmfledhhoedaaGreatDoorD20
import Derived.Test.YtgdmfledhhoedaaGreatDoorD21
import Derived.Test.YtgdmfledhhoedaaGreatDoorD10
import Derived.Maps.AppendAt
import Derived.Deep.LoopGhost
import Derived.Test.YtgdmfledhhoedaaGreatDoorD04
import Derived.Test.YtgdmfledhhoedaaGreatDoorD05
namespace Go.Burg
open Go Go.RowKit
def upd (l:Nat->Ten) (n:Nat) (t:Ten):Nat->Ten:=fun i=>if i=n then t else l i
theorem TabAt.put {tt:TypeId} {w:World} {x t n:Nat} {l:Nat->Ten} (h:TabAt tt w x t l) (hn:n<17) (d:Ten) :
 TabAt tt ((((w.setCell ⟨x,1+n * 4,none⟩ (.int .u32 d.gen)).setCell ⟨x,1+n * 4+1,none⟩ (.int .i64 d.slot)).setCell ⟨x,1+n * 4+2,none⟩ (.int .u32 d.agen)).setCell ⟨x,1+n * 4+3,none⟩ (.pointer (d.purse.map fun b=>⟨b,0,none⟩))) x t (upd l n d):=by
 obtain⟨cs,h1,h2,h3⟩:=h
 have a3:cs[1+n * 4+3]?=some (.pointer ((l n).purse.map fun b=>⟨b,0,none⟩)):=h3 n hn 3 (by omega)
 have s3:1+n * 4+3<cs.size:=(Array.getElem?_eq_some_iff.1 a3).1
 refine⟨_,heap_set (heap_set (heap_set (heap_set h1))),?_,fun i hi j hj=>?_⟩
 ·iterate 4 rw[z2q,if_neg (by omega)]
  exact h2
 ·unfold upd
  by_cases hin:i=n
  ·subst hin
   rw[if_pos rfl]
   rcases (by omega:j=0\/j=1\/j=2\/j=3) with rfl|rfl|rfl|rfl<;>simp[z2q,TRow]<;>omega
  ·rw[if_neg hin,<- h3 i hi j hj]
   iterate 4 rw[z2q,if_neg (by omega)]
end Go.Burg
namespace Go.Proofs.YtgdmfledhhoedaaGreatDoor.T
set_option maxRecDepth 8000
open Go.ChangeShapes Go.WideShapes Go.ChangeAt Go.RowKit Go.Burg
open Go.Burg.Lk
open Go.Burg.Purse (St Inv)
theorem pnew_det (mk mb:Int) (w:World):Calls Tryz.prog 26 #[.agg #[.int .u64 mk,.int .u64 mb]] w fun e w'=>e=.returned (.pointer (some ⟨w.heap.size+1+1,0,none⟩))/\z0i w' (w.heap.size+1+1) (w.heap.size+1) (St.new mk mb)/\Below w.heap.size w w':=by
 have hmm:=@run_makeMap Tryz.prog
 go_enter Tryz.func26,Tryz.ntmps26
 go_wp2
 go_ret
 refine⟨rfl,⟨?_,?_⟩,by (repeat (first|exact Below.refl _ _|assumption|with_reducible refine Below.drew ?_|with_reducible refine below_drewN ?_|with_reducible refine Below.setCell ?_ (by first|(simp;done)|(simp;omega)) _|with_reducible refine Below.alloc ?_ (by first|exact Nat.le_refl _|(simp;done)|(simp;omega)) _))⟩
 ·simpa[PBlk,St.new] using z0a ((w.alloc (.cells #[.int .u64 mk,.int .u64 mb] 33 (0,0))).alloc (.map #[] 0)) (PBlk mk mb 0 0 0 0 0 (some (w.heap.size+1)))
 ·have h0:=z0a (w.alloc (.cells #[.int .u64 mk,.int .u64 mb] 33 (0,0))) (.map #[] 0)
  refine z0q.alloc ?_ _
  exact⟨#[],0,by simpa using h0,by simp[St.new],by simp,by simp[St.new]⟩
def MkMid (W:World) (x t n:Nat) (l:Nat->Ten) (d:Ten) (s:St) (b1 b2:Bool) (w1:World):Prop :=
 cond b2 (Mod (·=x) W w1/\TabAt 87 w1 x t (upd l n d)/\z0i w1 (W.heap.size+1+1) (W.heap.size+1) s)
  (cond b1 (Below W.heap.size W w1/\z0i w1 (W.heap.size+1+1) (W.heap.size+1) s) (w1=W.drew))
variable {n t x:Nat} {l:Nat->Ten}
theorem MkMid.below {W w1:World} {d:Ten} {s:St} {b1:Bool} (h:MkMid W x t n l d s b1 false w1):Below W.heap.size W w1:=by
 cases b1
 ·have:w1=W.drew:=h
  rw[this]
  exact (Below.refl _ _).drew
 ·exact h.1
def COwn (x sg km:Nat) (i:Nat):Prop:=i=x\/TOwn sg km i
set_option maxHeartbeats 4000000 in
theorem create_new {sb sg kb km k:Nat} {ls:List (Cel Nd)} {L:List (RefK × Wd)} {tk:Int} {c:Cel Nd} (mk mb:Int) (w:World) (hX:TabAt 87 w x t l) (hT:TreeAt w t sb sg kb km ls L tk)
 (hx:x≠t/\x≠sb/\x≠sg/\x≠kb/\x≠km) (h1:1<=n) (h2:n<=16) (hp:(l n).purse=none) (hg:0<=(l n).gen/\(l n).gen<4294967295)
 (hF:z2s ls (k:Int)) (hk:ls[k]?=some c) (hr:c.room=true) (r:RefK) (hr1:r.1.1=k) (hr2:r.1.2=c.gen+1) :
 Calls Tryz.prog 6 #[.pointer (some ⟨x,0,none⟩),.int .i64 n,.agg #[.int .u64 mk,.int .u64 mb]] w fun e w'=>e=.returned (.int .i64 0)/\∃ p m,TabAt 87 w' x t (upd l n ⟨(l n).gen+1,k,c.gen+1,some p⟩)/\TreeAt w' t sb sg kb km (ls.set k ⟨true,anchorN,c.gen+1⟩) (K.addL L r).2 tk/\z0i w' p m (St.new mk mb)/\w.heap.size<=p/\w.heap.size<=m/\Mod (COwn x sg km) w w':=by
 have hN:=z0a w (.cells #[.int .u64 mk,.int .u64 mb] 33 (0,0))
 have hXA:=hX.alloc (.cells #[.int .u64 mk,.int .u64 mb] 33 (0,0))
 have hTA:=hT.alloc (.cells #[.int .u64 mk,.int .u64 mb] 33 (0,0))
 have HO:=hid (of_none (.func (.func 24) #[] #[]) _ hXA h1 h2 hp)
 have HPL:=hid (plant_at _ hTA hF hk hr r hr1 hr2)
 have HX0:=hid hX
 have HT0:=hid hT
 have HXA:=hid hXA
 have HN:=hid hN
 have HH:=hid hx
 have HG:=hid hg
 have hno:¬ TOwn sg km x:=fun e=>by rcases e with e|e<;>omega
 have hno2:¬ TOwn sg km w.heap.size:=fun e=>by have:=hT.hs.glt;have:=hT.hk.lt;rcases e with e|e<;>omega
 have c0:=hXA.head.1
 clear hX hT hx hp hg hF hk hr hr1 hr2 hN hXA hTA
 go_enter Tryz.func6,Tryz.ntmps6
 go_wp2_with (first|(go_at_call 23;refine HO.out.mono ?_;rintro e w2 ⟨rfl,rfl⟩)|(go_at_call 25;refine HPL.out.mono ?_;rintro e w2 ⟨rfl,hT2,hM2⟩;have HT2:=hid hT2;have HM2:=hid hM2;clear hT2 hM2))
 have hM2:=HM2.out
 have hb0:Mod (TOwn sg km) w w2:=((Mod.refl (TOwn sg km) w).alloc (.cells #[.int .u64 mk,.int .u64 mb] 33 (0,0))).trans hM2 (fun _ _ h=>h)
 have HXW:=hid ((HXA.out.mod hM2 hno).alloc (.cells #[.int .i64 k,.int .u32 (c.gen+1)] 36 (0,0)))
 have HTW:=hid (HT2.out.alloc (.cells #[.int .i64 k,.int .u32 (c.gen+1)] 36 (0,0)))
 have HNW:=hid (z0c (o':=(.cells #[.int .i64 k,.int .u32 (c.gen+1)] 36 (0,0))) ((hM2.block w.heap.size (by simp) hno2).trans HN.out))
 have HUW:=hid (z0a w2 (.cells #[.int .i64 k,.int .u32 (c.gen+1)] 36 (0,0)))
 have HMW:=hid (hb0.alloc (.cells #[.int .i64 k,.int .u32 (c.gen+1)] 36 (0,0)))
 have hws:w.heap.size<w2.heap.size:=Nat.lt_of_lt_of_le (by simp) hM2.size
 have hwu:(w2.alloc (.cells #[.int .i64 k,.int .u32 (c.gen+1)] 36 (0,0))).heap.size=w2.heap.size+1:=by simp
 clear hM2 hb0 HM2 HT2 HN HXA HO HPL c0
 generalize w2.alloc (.cells #[.int .i64 k,.int .u32 (c.gen+1)] 36 (0,0))=W at *
 generalize w2.heap.size=u at *
 have HWU:=hid hwu
 clear hwu
 have hg0:=HG.out
 have hwr:IntKind.u32.wrap ((l n).gen+1)=(l n).gen+1:=by
  have:IntKind.u32.wrap ((l n).gen+1)=((l n).gen+1) % 4294967296:=rfl
  rw[this];omega
 have HWR:=hid hwr
 clear hwr hg0
 have hxl:=HXW.out.lt
 have HCL:=hid (show n<17 by omega)
 refine wp_region_seqC 18 (Turn4 12 17 98 99 (fun b1 b2 _ _ w1=>MkMid W x t n l ⟨(l n).gen+1,k,c.gen+1,some (W.heap.size+1+1)⟩ (St.new mk mb) b1 b2 w1)) (by kernel_rfl) (by kernel_rfl) (by kernel_rfl) (Turn4.start rfl) ?_
 dsimp only[List.take]
 iterate 12
  refine Seq4.calm (a':=?_) (by decide) (by decide) (by decide) (by decide) ?_ ?_ ?_
  rotate_left
  ·intro b1 b2 b3 b4 w1 e1 f1 e2 f2 e3 f3 e4 f4 hw1
   obtain rfl:=e2 (by kernel_rfl)
   have HW1:=hid hw1
   have hb1:=hw1.below
   obtain⟨t0,_,_,_⟩:=(HXW.out.keep hb1).cell HCL.out
   have hn1:=z0b HNW.out hb1 (lt_of_block HNW.out)
   have hu1:=z0b HUW.out hb1 (lt_of_block HUW.out)
   have n0:=cell_of hn1 0
   have n1:=cell_of hn1 1
   have u0:=cell_of hu1 0
   have u1:=cell_of hu1 1
   have hwr:=HWR.out
   clear hw1 hb1 hn1 hu1 e1 f1 e2 f2 e3 f3 e4 f4
   go_wp2_with fail
   refine⟨?_,HW1.out⟩
   exact rfl
  ·kernel_rfl
 refine Seq4.at1 (a':=?_) (by decide) (by decide) (by decide) ?_ ?_ ?_
 rotate_left
 ·intro b2 b3 b4 w1 e2 f2 e3 f3 e4 f4 hw1
  obtain rfl:=e2 (by kernel_rfl)
  obtain rfl:w1=W.drew:=hw1
  clear e2 f2 e3 f3 e4 f4
  go_wp2_with (go_at_call 26;refine (pnew_det mk mb _).mono ?_;rintro e w3 ⟨rfl,hP,hB⟩)
  refine⟨?_,(Below.refl _ _).drew.trans hB,hP⟩
  exact rfl
 ·kernel_rfl
 iterate 4
  refine Seq4.calm (a':=?_) (by decide) (by decide) (by decide) (by decide) ?_ ?_ ?_
  rotate_left
  ·intro b1 b2 b3 b4 w1 e1 f1 e2 f2 e3 f3 e4 f4 hw1
   obtain rfl:=e2 (by kernel_rfl)
   have HW1:=hid hw1
   have hb1:=hw1.below
   obtain⟨t0,_,_,_⟩:=(HXW.out.keep hb1).cell HCL.out
   have hn1:=z0b HNW.out hb1 (lt_of_block HNW.out)
   have hu1:=z0b HUW.out hb1 (lt_of_block HUW.out)
   have n0:=cell_of hn1 0
   have n1:=cell_of hn1 1
   have u0:=cell_of hu1 0
   have u1:=cell_of hu1 1
   have hwr:=HWR.out
   clear hw1 hb1 hn1 hu1 e1 f1 e2 f2 e3 f3 e4 f4
   go_wp2_with fail
   refine⟨?_,HW1.out⟩
   exact rfl
  ·kernel_rfl
 refine Seq4.at2 (a':=?_) (by decide) (by decide) (by decide) ?_ ?_ ?_
 rotate_left
 ·intro b1 b3 b4 w1 e1 f1 e3 f3 e4 f4 hw1
  obtain rfl:=f1 (by kernel_rfl)
  clear e1 f1 e3 f3 e4 f4
  have hb1:Below W.heap.size W w1:=hw1.1
  have hX1:=HXW.out.keep hb1
  obtain⟨t0,t1,t2,t3⟩:=hX1.cell HCL.out
  have tf:=hX1.head.2
  have HPUT:=hid (hX1.put HCL.out ⟨(l n).gen+1,k,c.gen+1,some (W.heap.size+1+1)⟩)
  have HPU:Hid (z0i w1 (W.heap.size+1+1) (W.heap.size+1) (St.new mk mb)):=hid hw1.2
  have HB1:=hid hb1
  have HWZ:=hid hxl
  clear hw1 hb1 hX1
  go_wp2_with fail
  have hM:Mod (·=x) w1 _:=Mod.setCell (S:=(·=x)) (p:=⟨x,1+n * 4+3,none⟩) (Mod.setCell (S:=(·=x)) (p:=⟨x,1+n * 4+2,none⟩) (Mod.setCell (S:=(·=x)) (p:=⟨x,1+n * 4+1,none⟩) (Mod.setCell (S:=(·=x)) (p:=⟨x,1+n * 4,none⟩) (Mod.refl _ w1) (.inl rfl) (.int .u32 ((l n).gen+1))) (.inl rfl) (.int .i64 k)) (.inl rfl) (.int .u32 (c.gen+1))) (.inl rfl) (.pointer (some ⟨W.heap.size+1+1,0,none⟩))
  refine⟨?_,(Mod.z0j HB1.out).trans hM (fun _ _ h=>h),HPUT.out,HPU.out.mod hM (by omega) (by omega)⟩
  exact rfl
 ·kernel_rfl
 refine SeqC.nil ?_
 intro D w1 hD hI
 unfold Turn4 at hI
 rw[hD 12 (by omega),hD 17 (by omega)] at hI
 obtain⟨hM,hX,hP⟩:=hI
 have HM:=hid hM
 have HX:=hid hX
 have HP:=hid hP
 clear hD hM hX hP
 dsimp only[List.drop]
 go_wp2
 go_ret
 have hM:=HM.out
 have hT:=HTW.out
 have hh:=HH.out
 have hsz:=HMW.out.size
 refine⟨rfl,W.heap.size+1+1,W.heap.size+1,HX.out,hT.mod hM (Ne.symm hh.1) (Ne.symm hh.2.1) (Ne.symm hh.2.2.1) (Ne.symm hh.2.2.2.1) (Ne.symm hh.2.2.2.2),HP.out,by omega,by omega,?_⟩
 exact (HMW.out.mono (S':=COwn x sg km) fun _ _ h=>.inr h).trans hM (fun _ _ h=>.inl h)
theorem create_twice {p:Nat} (mk mb:Int) (w:World) (hX:TabAt 87 w x t l) (h1:1<=n) (h2:n<=16) (hp:(l n).purse=some p) :
 Calls Tryz.prog 6 #[.pointer (some ⟨x,0,none⟩),.int .i64 n,.agg #[.int .u64 mk,.int .u64 mb]] w fun e w'=>e=.returned (.int .i64 8)/\Below w.heap.size w w':=by
 have HO:=hid (of_create _ (hX.alloc (.cells #[.int .u64 mk,.int .u64 mb] 33 (0,0))) h1 h2 hp)
 clear hX hp
 go_enter Tryz.func6,Tryz.ntmps6
 go_wp2_with (go_at_call 23;refine HO.out.mono ?_;rintro e w2 ⟨rfl,rfl⟩)
 go_ret
 exact⟨rfl,(Below.refl _ _).alloc (Nat.le_refl _) _⟩
end Go.Proofs.YtgdmfledhhoedaaGreatDoor.T
namespace Go.Burg
open Go Go.RowKit
def tens (l:Nat->Ten) (k:Nat):List Nat:=((List.range k).map (·+1)).filter fun m=>(l m).purse.isSome
def natsL (T:List Nat):List Value:=T.map fun n=>.int .i64 (n:Nat)
theorem tens_succ (l:Nat->Ten) (k:Nat):tens l (k+1)=tens l k++(if (l (k+1)).purse.isSome then [k+1] else []):=by
 unfold tens
 rw[List.range_succ,List.map_append,List.filter_append]
 congr 1
 simp only[List.map_cons,List.map_nil,List.filter_cons,List.filter_nil]
theorem tens_len (l:Nat->Ten) (k:Nat):(tens l k).length<=k:=by
 unfold tens
 refine Nat.le_trans (List.length_filter_le _ _) ?_
 simp
theorem natsL_app (A B:List Nat):natsL (A++B)=natsL A++natsL B:=by simp[natsL]
theorem natsL_get {A:List Nat} {i n:Nat} (h:A[i]?=some n):(natsL A)[i]?=some (.int .i64 (n:Nat)):=by simp[natsL,h]
end Go.Burg
namespace Go.Proofs.YtgdmfledhhoedaaGreatDoor.T
set_option maxRecDepth 8000
open Go.ChangeShapes Go.WideShapes Go.ChangeAt Go.RowKit Go.Burg
open Go.Burg.Lk
theorem news1 (w:World) (H:Nat) (v1:Value) (T:TypeId) (h:w.heap[H]?=some (.cells #[v1] T (0,0))):∀ j u,[v1][j]?=some u->w.cell? ((⟨H,0,none⟩:Addr).add j)=some u:=by
 intro j u hj
 obtain⟨e,rfl⟩:j=0/\v1=u:=by
  cases j with
  | zero=>simpa using hj
  | succ j=>simp at hj
 subst e
 exact cell_of h 0
variable {base n nb ob t x:Nat} {ov:Value}
theorem tenants1_any {T:List Nat} (v:Value) (w:World) (ho:w.heap[ob]?=some (.cells #[ov] 122 (0,0))) (hn:w.heap[nb]?=some (.cells #[.int .i64 n] 3 (0,0))) (hO:w.ownsRow base 3 1 ov T.length (natsL T)) (hl:T.length<=100) (hne:∀ b,ov.ownBlock=some b->b≠nb/\b≠ob) (hb:base<=w.heap.size) :
 Calls Tryz.prog 81 #[v,.pointer (some ⟨ob,0,none⟩),.pointer (some ⟨nb,0,none⟩)] w fun e w'=>e=.returned (.tuple #[])/\∃ ov',w'.heap[ob]?=some (.cells #[ov'] 122 (0,0))/\w'.ownsRow base 3 1 ov' (T++[n]).length (natsL (T++[n]))/\Mod (fun i=>i=ob\/ov.ownBlock=some i) w w'/\(∀ b,ov'.ownBlock=some b->ov.ownBlock=some b\/w.heap.size<=b):=by
 obtain⟨it,hit,hzi,hszi,hbyi⟩:=info_parts (P:=Tryz.prog) (e:=3) (z:=.int .i64 0) (size:=1) (bytes:=8) (by kernel_rfl)
 have HIT:=hid (And.intro hit (And.intro hzi (And.intro hszi hbyi)))
 have o0:=cell_of ho 0
 have n0:=cell_of hn 0
 have HO:=hid (hO.alloc (.cells #[.int .i64 n] 3))
 have HN:=hid (news1 _ _ _ _ (z0a w (.cells #[.int .i64 n] 3)))
 have HOB:=hid (z0c (o':=.cells #[.int .i64 n] 3) ho)
 have hlo:=lt_of_block ho
 have HLO:=hid hlo
 have HNE:=hid hne
 have HB:=hid hb
 have HL:=hid hl
 have HBS:Hid (base<=(w.alloc (.cells #[.int .i64 n] 3)).heap.size):=hid (by simp;omega)
 clear hit hzi hszi hbyi hO ho hn hne hb hlo
 go_enter Tryz.func81,Tryz.ntmps81
 go_wp2_with (at_builtin;go_loud (refine wpList_append_own_at _ rfl (.tmp 4) (.tmp 6) 122 rfl base 3 it _ 1 8 Tryz.underlying122 HIT.out.1 HIT.out.2.1 HIT.out.2.2.1 HIT.out.2.2.2 rfl (by decide) ov T.length (natsL T) rfl HO.out ⟨w.heap.size,0,none⟩ 1 1 [.int .i64 n] rfl rfl HN.out (by simp[Value.oneCell']) (by simp[maxLen];omega) (by omega) HBS.out ?_))
 intro v6 W6 hO6 hG6 _ hloc
 obtain⟨a6,n6,c6,rfl⟩:∃ a n c,v6=.slice a n c:=by
  obtain⟨_,⟨e,_⟩|⟨g,cp,cur,e,_⟩⟩:=hO6
  ·exact⟨_,_,_,e⟩
  ·exact⟨_,_,_,e⟩
 have hM6:Mod (fun i=>ov.ownBlock=some i) (w.alloc (.cells #[.int .i64 n] 3)) W6:=⟨hG6.os,hG6.tape,hG6.output,hG6.size,fun k hk hn=>hG6.block k hk (fun e=>hn e.symm)⟩
 have hob6:=(hM6.block ob (lt_of_block HOB.out) (fun e=>(HNE.out _ e).2 rfl)).trans HOB.out
 have o0:=cell_of hob6 0
 have of:=z0e hob6
 have HM6:=hid ((((Mod.refl (fun i=>ov.ownBlock=some i) w).alloc (.cells #[.int .i64 n] 3)).trans hM6 (fun _ _ h=>h)))
 have HO6:=hid hO6
 have HOB6:=hid hob6
 have hs6:=hG6.size
 have HS6:=hid hs6
 have HLC:=hid hloc
 clear hO6 hG6 hob6 hM6 hloc hs6
 go_wp2_with fail
 go_end0
 have hset:=heap_set (i:=0) (v:=.slice a6 n6 c6) HOB6.out
 have hsz:w.heap.size+1<=W6.heap.size:=by have:=HS6.out;simpa using this
 have hv6:∀ b,(Value.slice a6 n6 c6).ownBlock=some b->ov.ownBlock=some b\/w.heap.size<=b:=fun b hb=>by
  rcases HLC.out with h|h
  ·exact .inl (h ▸ hb)
  ·rw[hb] at h
   have:=Option.some.inj h
   right
   have e:(w.alloc (.cells #[.int .i64 n] 3)).heap.size=w.heap.size+1:=by simp
   omega
 have hM2:=Mod.setCell (S:=(·=ob)) (p:=⟨ob,0,none⟩) (Mod.refl _ W6) (.inl rfl) (.slice a6 n6 c6)
 refine⟨rfl,_,by simpa using hset,?_,(HM6.out.mono fun _ _ h=>.inr h).trans hM2 (fun _ _ h=>.inl h),hv6⟩
 rw[natsL_app,List.length_append]
 refine O.z0h HO6.out hM2 (fun k hk e=>?_)
 subst e
 rcases hv6 _ hk with h|h
 ·exact (HNE.out _ h).2 rfl
 ·have:=HLO.out;omega
variable {l:Nat->Ten}
theorem of_tenants {p:Nat} {T:List Nat} (w:World) (h:TabAt 87 w x t l) (h1:1<=n) (h2:n<=16) (hp:(l n).purse=some p) (ho:w.heap[ob]?=some (.cells #[ov] 122 (0,0))) (hn:w.heap[nb]?=some (.cells #[.int .i64 n] 3 (0,0))) (hO:w.ownsRow base 3 1 ov T.length (natsL T)) (hl:T.length<=100) (hne:∀ b,ov.ownBlock=some b->b≠nb/\b≠ob) (hb:base<=w.heap.size) :
 Calls Tryz.prog 23 #[.pointer (some ⟨x,0,none⟩),.int .i64 n,.func (.func 81) #[] #[.pointer (some ⟨ob,0,none⟩),.pointer (some ⟨nb,0,none⟩)]] w fun e w'=>e=.returned (.int .i64 0)/\∃ ov',w'.heap[ob]?=some (.cells #[ov'] 122 (0,0))/\w'.ownsRow base 3 1 ov' (T++[n]).length (natsL (T++[n]))/\Mod (fun i=>i=ob\/ov.ownBlock=some i) w w'/\(∀ b,ov'.ownBlock=some b->ov.ownBlock=some b\/w.heap.size<=b):=by
 have HI:=hid (tenants1_any (.pointer (some ⟨x,1+n * 4,none⟩)) w ho hn hO hl hne hb)
 clear ho hn hO hl hne hb
 have HT:=hid (z1i w h)
 obtain⟨_,cf⟩:=h.head
 obtain⟨c0,c1,c2,c3⟩:=h.cell (show n<17 by omega)
 rw[hp] at c3
 simp only[Option.map_some] at c3
 clear c0 c1 c2 hp
 have g1:decide ((n:Int)<1)=false:=by simp;omega
 have g2:decide ((n:Int) > 16)=false:=by simp;omega
 go_enter Tryz.func23,Tryz.ntmps23
 go_wp2_with (first|(go_at_call 55;refine HT.out.mono ?_;rintro e w2 ⟨rfl,rfl⟩)|(go_at_call 81;refine HI.out.mono ?_;rintro e w2 ⟨rfl,hC⟩))
 go_ret
 exact⟨rfl,hC⟩
set_option maxHeartbeats 1000000 in
theorem tenants_at (w:World) (h:TabAt 87 w x t l) :
 Calls Tryz.prog 42 #[.pointer (some ⟨x,0,none⟩)] w fun e w'=>∃ v,e=.returned v/\w'.ownsRow w.heap.size 3 1 v (tens l 16).length (natsL (tens l 16))/\Below w.heap.size w w':=by
 have HXW:=hid h
 have hX:=(h.alloc (.cells #[.slice none 0 0] 122 (0,0))).alloc (.cells #[.int .i64 1] 3 (0,0))
 have ho:=z0c (o':=(.cells #[.int .i64 1] 3 (0,0))) (z0a w (.cells #[.slice none 0 0] 122 (0,0)))
 have hn:=z0a (w.alloc (.cells #[.slice none 0 0] 122 (0,0))) (.cells #[.int .i64 1] 3 (0,0))
 have hs1:(w.alloc (.cells #[.slice none 0 0] 122 (0,0))).heap.size=w.heap.size+1:=by simp
 rw[hs1] at hn
 have hB:Below w.heap.size w ((w.alloc (.cells #[.slice none 0 0] 122 (0,0))).alloc (.cells #[.int .i64 1] 3 (0,0))):=((Below.refl _ _).alloc (Nat.le_refl _) _).alloc (by simp) _
 generalize hW:(w.alloc (.cells #[.slice none 0 0] 122 (0,0))).alloc (.cells #[.int .i64 1] 3 (0,0))=W at *
 generalize hob:w.heap.size=ob at *
 have hxl:=h.lt
 have HX:=hid hX
 have HO:=hid ho
 have HN:=hid hn
 have HB:=hid hB
 have HXL:Hid (x<ob):=hid (hob ▸ hxl)
 have HE:=hid (And.intro hW hob)
 clear h hX ho hn hs1 hB hW hob hxl
 go_enter Tryz.func42,Tryz.ntmps42
 go_wp2_with fail
 try rw[HE.out.1,HE.out.2]
 go_loopg [3] 16 (fun g pv wr=>∃ (k nb:Nat) (ov:Value),g=16 - k/\k<=16/\pv=.pointer (some ⟨nb,0,none⟩)/\wr.heap[nb]?=some (.cells #[.int .i64 ((k:Int)+1)] 3 (0,0))/\wr.heap[ob]?=some (.cells #[ov] 122 (0,0))/\wr.ownsRow ob 3 1 ov (tens l k).length (natsL (tens l k))/\(∀ b,ov.ownBlock=some b->b≠nb/\b≠ob)/\ob<nb/\Below ob w wr)
 case atStart=>exact⟨0,ob+1,.slice none 0 0,rfl,by omega,rfl,HN.out,HO.out,World.ownsRow_nil _ _ _ _,(fun b h=>by cases h),by omega,HB.out⟩
 case round =>
  obtain⟨k,nb,ov,rfl,hk,rfl,hn,ho,hO,hne,hlt,hB⟩:=hrel
  have hX:=HXW.out.below hB HXL.out
  have n0:=cell_of hn 0
  have HXR:=hid hX
  have HN1:=hid hn
  have HO1:=hid (And.intro ho hO)
  have HNE:=hid hne
  have HB1:=hid hB
  have HNB:=hid hlt
  have htl:=tens_len l k
  have HTL:=hid htl
  clear hX hn ho hO hne hB hlt htl
  have hs:=HB1.out.size
  have hs0:=hs
  rw[HE.out.2] at hs
  have hnl:=lt_of_block HN1.out
  by_cases hlt:k<16
  ·cases hp:(l (k+1)).purse with
   | none =>
    have HO2:=hid (fun f=>of_none f wr HXR.out (n:=k+1) (by omega) (by omega) hp)
    have hts:tens l (k+1)=tens l k:=by rw[tens_succ,hp];simp
    have HTS:=hid hts
    clear hp hts
    go_wp2_with (go_at_call 23;refine (HO2.out _).mono ?_;rintro e w2 ⟨rfl,rfl⟩)
    go_roundg (16 - (k+1))
    case measure=>omega
    case rel =>
     refine⟨k+1,wr.heap.size,ov,rfl,by omega,rfl,by simpa using z0a wr (.cells #[.int .i64 ((k:Int)+1+1)] 3 (0,0)),z0c HO1.out.1,?_,fun b hb=>⟨?_,(HNE.out b hb).2⟩,?_,HB1.out.alloc hs _⟩
     ·rw[HTS.out]
      exact HO1.out.2.alloc _
     ·have:=(World.ownsRow.lt HO1.out.2 b hb).2
      omega
     ·have:=HNB.out;omega
   | some p =>
    have HO2:=hid (of_tenants wr HXR.out (n:=k+1) (by omega) (by omega) hp HO1.out.1 (by simpa using HN1.out) HO1.out.2 (by have:=HTL.out;omega) HNE.out (by omega))
    have hts:tens l (k+1)=tens l k++[k+1]:=by rw[tens_succ,hp];simp
    have HTS:=hid hts
    clear hp hts
    go_wp2_with (go_at_call 23;refine HO2.out.mono ?_;rintro e w2 ⟨rfl,ov',ho2,hO2,hM2,hv2⟩;go_loud (have hn2:=(hM2.block nb hnl (fun e=>e.elim (fun e=>by have:=HNB.out;omega) (fun e=>(HNE.out _ e).1 rfl))).trans HN1.out;have n2:=cell_of hn2 0;have H2:=hid (And.intro ho2 (And.intro hO2 (And.intro hM2 hv2)));clear ho2 hO2 hM2 hv2))
    go_roundg (16 - (k+1))
    case measure=>omega
    case rel =>
     obtain⟨ho2,hO2,hM2,hv2⟩:=H2.out
     have hs2:=hM2.size
     have hB2:Below ob w w2:=⟨hM2.os.trans HB1.out.os,hM2.tape.trans HB1.out.tape,hM2.output.trans HB1.out.output,by have:=hs;omega,fun j hj=>(hM2.block j (by have:=HNB.out;omega) (fun e=>e.elim (fun e=>by omega) (fun e=>by have:=(World.ownsRow.lt HO1.out.2 j e).1;omega))).trans (HB1.out.block j hj)⟩
     refine⟨k+1,w2.heap.size,ov',rfl,by omega,rfl,by simpa using z0a w2 (.cells #[.int .i64 ((k:Int)+1+1)] 3 (0,0)),z0c ho2,?_,fun b hb=>⟨?_,fun e=>?_⟩,?_,hB2.alloc (by omega) _⟩
     ·rw[HTS.out]
      exact hO2.alloc _
     ·have:=(World.ownsRow.lt hO2 b hb).2
      omega
     ·rcases hv2 b hb with h|h
      ·exact (HNE.out b h).2 e
      ·have:=HNB.out;omega
     ·have:=HNB.out;omega
  ·obtain rfl:k=16:=by omega
   obtain⟨a6,n6,c6,rfl⟩:∃ a n c,ov=.slice a n c:=by
    obtain⟨_,⟨e,_⟩|⟨g,cp,cur,e,_⟩⟩:=HO1.out.2
    ·exact⟨_,_,_,e⟩
    ·exact⟨_,_,_,e⟩
   have o0:=cell_of HO1.out.1 0
   have of:=z0e HO1.out.1
   go_wp2_with fail
   have hset:=heap_set (i:=0) (v:=.slice a6 n6 c6) HO1.out.1
   have q0:=cell_of hset 0
   refine bodyPost_ret (v:=.slice a6 n6 c6) (by simp[results,Tryz.results42,go_sem,q0]) rfl ?_
   have hM2:=Mod.setCell (S:=(·=ob)) (p:=⟨ob,0,none⟩) (Mod.refl _ wr) (.inl rfl) (.slice a6 n6 c6)
   refine⟨_,rfl,O.z0h HO1.out.2 hM2 (fun k hk e=>?_),?_⟩
   ·exact (HNE.out k hk).2 e
   ·exact⟨hM2.os.trans HB1.out.os,hM2.tape.trans HB1.out.tape,hM2.output.trans HB1.out.output,by have:=hM2.size;have:=HB1.out.size;omega,fun j hj=>(hM2.block j (by omega) (fun e=>by have e:j=ob:=e;omega)).trans (HB1.out.block j hj)⟩
end Go.Proofs.YtgdmfledhhoedaaGreatDoor.T
namespace Go.Burg
open Go Go.RowKit
def updF {α:Type} (f:Nat->α) (n:Nat) (v:α):Nat->α:=fun i=>if i=n then v else f i
theorem z1k {α:Type} (f:Nat->α) (n:Nat) (v:α):updF f n v n=v:=if_pos rfl
theorem z1l {α:Type} (f:Nat->α) {n m:Nat} (v:α) (h:m≠n):updF f n v m=f m:=if_neg h
structure Tens (P:List (Cel PNd)) (lt:Nat->Ten) (an:Nat->Nat) (Zs:Nat->Nat->Prop) (Es:Nat->Ents):Prop where
 ten:∀ n p,(lt n).purse=some p->(lt n).slot=(an n:Int)/\Sub P (an n) (lt n).agen true [] (Zs n) (Es n)
 non:∀ n,(lt n).purse=none->(∀ y,¬ Zs n y)/\Es n=[]
 dis:∀ n m y,n≠m->Zs n y->¬ Zs m y
section
variable {P P':List (Cel PNd)} {lt:Nat->Ten} {an:Nat->Nat} {Zs:Nat->Nat->Prop} {Es:Nat->Ents}
theorem Tens.some_of (h:Tens P lt an Zs Es) {n y:Nat} (hz:Zs n y):∃ p,(lt n).purse=some p:=by
 cases hp:(lt n).purse with
 | none=>exact absurd hz ((h.non n hp).1 y)
 | some p=>exact⟨p,rfl⟩
theorem Tens.alive (h:Tens P lt an Zs Es) {n y:Nat} (hz:Zs n y):Alive P y:=by
 obtain⟨p,hp⟩:=h.some_of hz
 exact (h.ten n p hp).2.live hz
theorem sub_anchor {j:Nat} {g:Int} (h:z0l P j g j ⟨.z0k 5 ⟨#[]⟩ [],true,false⟩):∃ S,Sub P j g true [] S []/\∀ y,S y ↔ y=j:=by
 have:=Sub.node (P:=P) (ki:=fun _=>0) (Ss:=fun _ _=>False) (Es:=fun _=>[]) (pre:=[]) (pl:=true) h (fun j kd hj=>by simp at hj) (fun j kd hj=>by simp at hj) (fun j x hj=>by simp at hj) (fun j j' x hj=>by simp at hj) List.Pairwise.nil (fun kd hk=>by simp at hk) (by simp) (fun e=>by cases e) (fun _=>⟨rfl,rfl⟩)
 refine⟨_,this,fun y=>⟨fun h=>?_,fun h=>.inl h⟩⟩
 rcases h with h|⟨k,hk,_⟩
 ·exact h
 ·simp at hk
theorem Tens.z1h (h:Tens P lt an Zs Es) {n j p:Nat} {pj:Cel PNd} {g:Int} (hp:(lt n).purse=none) (hj:P[j]?=some pj) (hr:pj.room=true) :
 Tens (P.set j ⟨true,⟨.z0k 5 ⟨#[]⟩ [],true,false⟩,pj.gen+1⟩) (upd lt n ⟨g,j,pj.gen+1,some p⟩) (updF an n j) (updF Zs n (·=j)) (updF Es n []):=by
 have hjl:=(List.getElem?_eq_some_iff.1 hj).1
 have hna:¬ Alive P j:=alive_not hj hr
 have hne:∀ m y,Zs m y->y≠j:=fun m y hz e=>hna (e ▸ h.alive hz)
 refine⟨fun m q hq=>?_,fun m hm=>?_,fun m k y hmk hy hy'=>?_⟩
 ·by_cases e:m=n
  ·subst e
   obtain⟨S,h1,h2⟩:=sub_anchor (z0l.put (P:=P) hjl (pj.gen+1) ⟨.z0k 5 ⟨#[]⟩ [],true,false⟩)
   have:S=(·=j):=funext fun y=>propext (h2 y)
   subst this
   simp only[upd,updF,if_pos]
   exact⟨trivial,h1⟩
  ·simp only[upd,updF,if_neg e] at hq ⊢
   obtain⟨a,b⟩:=h.ten m q hq
   exact⟨a,b.frame fun y hy=>List.getElem?_set_ne (fun e=>hne m y hy e.symm)⟩
 ·by_cases e:m=n
  ·subst e
   simp only[upd,if_pos] at hm
   cases hm
  ·simp only[upd,updF,if_neg e] at hm ⊢
   exact h.non m hm
 ·by_cases e:m=n
  ·subst e
   rw[z1k] at hy
   rw[z1l _ _ (fun e=>hmk e.symm)] at hy'
   exact hne k y hy' hy
  ·rw[z1l _ _ e] at hy
   by_cases e':k=n
   ·subst e'
    rw[z1k] at hy'
    exact hne m y hy hy'
   ·rw[z1l _ _ e'] at hy'
    exact h.dis m k y hmk hy hy'
theorem Tens.put (h:Tens P lt an Zs Es) {n p:Nat} (hp:(lt n).purse=some p) {S':Nat->Prop} {E':Ents} {c v:ByteArray} (hR:PutR P P' (an n) (lt n).agen (Zs n) S' (Es n) E' c v):Tens P' lt an (updF Zs n S') (updF Es n E'):=by
 refine⟨fun m q hq=>?_,fun m hm=>?_,fun m k y hmk hy hy'=>?_⟩
 ·by_cases e:m=n
  ·subst e
   rw[z1k,z1k]
   exact⟨(h.ten m q hq).1,hR.sub⟩
  ·rw[z1l _ _ e,z1l _ _ e]
   obtain⟨a,b⟩:=h.ten m q hq
   exact⟨a,b.frame fun y hy=>hR.keep y (fun hz=>h.dis m n y e hy hz) (h.alive hy)⟩
 ·by_cases e:m=n
  ·subst e
   rw[hp] at hm
   cases hm
  ·rw[z1l _ _ e,z1l _ _ e]
   exact h.non m hm
 ·have key:∀ k,k≠n->∀ y,Zs k y->¬ S' y:=fun k hk y hz hs=>(hR.fr y hs).elim (fun hn=>h.dis k n y hk hz hn) (fun hn=>hn (h.alive hz))
  by_cases e:m=n
  ·subst e
   rw[z1k] at hy
   rw[z1l _ _ (fun e=>hmk e.symm)] at hy'
   exact key k (fun e=>hmk e.symm) y hy' hy
  ·rw[z1l _ _ e] at hy
   by_cases e':k=n
   ·subst e'
    rw[z1k] at hy'
    exact key m hmk y hy hy'
   ·rw[z1l _ _ e'] at hy'
    exact h.dis m k y hmk hy hy'
end
theorem z2d {lt:Nat->Ten} {n:Nat}:n∈tens lt 16 ↔ (1<=n/\n<=16/\(lt n).purse.isSome=true):=by
 unfold tens
 rw[List.mem_filter,List.mem_map]
 constructor
 ·rintro ⟨⟨k,h1,rfl⟩,h2⟩
  have:=List.mem_range.1 h1
  exact⟨by omega,by omega,h2⟩
 ·rintro ⟨h1,h2,h3⟩
  exact⟨⟨n - 1,List.mem_range.2 (by omega),by omega⟩,h3⟩
structure MineX (n₀:Nat) (Mine:World->Nat->Prop) (X:World->Prop):Prop where
 grow:∀ {W W':World} {row:Option Nat} {i:Nat},X W->n₀<=W.heap.size->W.grownBy W' row->(∀ r,row=some r->n₀<=r/\∃ o:Obj,W.heap[r]?=some o/\o.isCells=false)->Mine W' i->Mine W i
 xg:∀ {W W':World} {row:Option Nat},X W->n₀<=W.heap.size->W.grownBy W' row->(∀ r,row=some r->n₀<=r/\∃ o:Obj,W.heap[r]?=some o/\o.isCells=false)->X W'
 lt:∀ {W:World} {i:Nat},X W->Mine W i->i<W.heap.size
section
variable {n₀:Nat} {Mine:World->Nat->Prop} {X:World->Prop} {A B:World}
theorem MineOk.x (h:MineOk n₀ Mine) (hl:∀ W i,Mine W i->i<W.heap.size):MineX n₀ Mine (fun _=>True):=⟨fun _=>h.grow,fun _ _ _ _=>trivial,fun _=>hl _ _⟩
theorem MineX.priv (hM:MineX n₀ Mine X) {c:Nat} (hx:X A) (hn:n₀<=A.heap.size) (hc:¬ Mine A c) (h:Below A.heap.size A B):¬ Mine B c:=fun hb=>hc (hM.grow hx hn (z0w h) (fun r e=>by cases e) hb)
theorem MineX.xb (hM:MineX n₀ Mine X) (hx:X A) (hn:n₀<=A.heap.size) (h:Below A.heap.size A B):X B:=hM.xg hx hn (z0w h) (fun r e=>by cases e)
theorem MineX.below (hM:MineX n₀ Mine X) (hx:X A) (hn:n₀<=A.heap.size) (h:Below A.heap.size A B):KpM n₀ Mine A B :=
 ⟨h.size,fun i _ _ _ ho _=>(h.block i (lt_of_block ho)).trans ho,fun i hb=>.inl (hM.grow hx hn (z0w h) (fun r e=>by cases e) hb)⟩
theorem MineX.put (hM:MineX n₀ Mine X) (W:World) (l:Nat) (o o':Obj) (hx:X W) (hn:n₀<=l) (h:W.heap[l]?=some o) (ho:o.isCells=false):KpM n₀ Mine W (W.putObj l o') :=
 ⟨by simp,fun i o2 _ _ hi hc=>by
  by_cases e:i=l
  ·subst e
   rw[h] at hi
   cases hi
   rw[ho] at hc
   cases hc
  ·exact (World.putObj_heap_other e).trans hi,fun i hb=>.inl (hM.grow hx (by have:=lt_of_block h;omega) (grownBy_putObj' W l o') (fun r e=>by cases e;exact⟨hn,o,h,ho⟩) hb)⟩
end
def SeqOwnC {α:Type} (C:List α->World->Prop) (Mine:World->Nat->Prop) (P:Program) (g:Nat) (lb:Array Value) (encs:α->Array Value) (n₀:Nat) (S Sp:List α->Prop) (w:World):Prop :=
 ∀ (l:Nat) (J Jx:List α->World->Prop) (W:World),Below w.heap.size w W->(∀ i,Mine W i->i<W.heap.size)->OwnFrom W.heap.size J->OwnFrom W.heap.size Jx->(∀ pre W1,J pre W1->C pre W1) ->
  (∀ pre x W1 m,J pre W1->Sp (pre++[x])->YieldAt Fence.wide m P l (encs x) W1 fun e W'=>(e=.returned (.bool true)/\J (pre++[x]) W'/\KpM n₀ Mine W1 W'/\KeepsFrom W.heap.size W1 W')\/(e=.returned (.bool false)/\Jx (pre++[x]) W'/\KeepsFrom W.heap.size W1 W')) ->
  J [] W->Calls P g (#[.func (.yield l) #[] #[]]++lb) W fun e W'=>(∃ v,e=.returned v)/\((∃ xs,S xs/\J xs W')\/∃ pre,Sp pre/\Jx pre W')
section
variable {α:Type} {P:Program} {g:Operand} {ps:Array Tmp} {assign body:Code} {Q:Exit->Act->World->Prop} {a:Act} {w:World} {n:Nat}
theorem range_ownC (h1:1<=n) {gf:Nat} {lb:Array Value} (hg:a.eval g=.func (.func gf) #[] lb) (eg:∀ args w,(callFunc gf args).run P w=.ok (.enter gf args) w)
 {encs:α->Array Value} {n₀:Nat} {S Sp:List α->Prop} {w0:World} {X:World->Prop} (Mine:World->Nat->Prop) (hMine:MineX n₀ Mine X) (C:List α->World->Prop) (hCX:∀ pre W,C pre W->X W) (hseq:SeqOwnC C Mine P gf lb encs n₀ S Sp w0) (hn0:n₀<=w.heap.size) (hml:∀ i,Mine w i->i<w.heap.size) (hb0:Below w0.heap.size w0 w) (hps:∀ x,(encs x).size=ps.size)
 (I Ix:List α->World->Prop) (hI:OwnFrom w.heap.size I) (hIx:OwnFrom w.heap.size Ix) (hC:∀ pre W1,I pre W1->C pre W1) (h0:I [] w) (Ax:α->Act->World->Prop) (hAx:∀ x a',OwnFrom w.heap.size (fun (_:Unit) W=>Ax x a' W))
 (hassign:∀ (l:Nat) (pre:List α) (x:α) (W:World) (K:Act->World->Prop),I pre W->(∀ a' W',KeepsFrom w.heap.size W W'->KpM n₀ Mine W W'->I pre W'->Ax x a' W'->K a' W') ->
  assign.wpIn (Fence.wide.inRound l) (n - 1 - 1) P (Exit.then K (fun _ _ _=>False)) { tmps:=(ps.zip (encs x)).foldl (fun t (p,v)=>t.setIfInBounds p v) a.tmps,defers:=[] } W)
 (hbody:∀ (l:Nat) (pre:List α) (x:α) (a':Act) (W:World),w.heap.size<=l->(∃ r,W.heap[l]?=some (.loop r))->I pre W->Ax x a' W->Sp (pre++[x])->body.wpIn (Fence.wide.inRound l) (n - 1 - 1) P (RoundEnd w.heap.size n₀ Mine I Ix (pre++[x]) W) a' W)
 (hdone:∀ (D:Nat) (xs:List α) (W:World),w.heap.size<=D->S xs->I xs W->W.heap[D]?=some (.deferred (some []))->Q .normal { a with defers:={ target:=.collected D,args:=#[] } :: a.defers } W)
 (hstop:∀ (D:Nat) (pre:List α) (W:World),w.heap.size<=D->Sp pre->Ix pre W->W.heap[D]?=some (.deferred (some []))->Code.ret.wpIn Fence.wide n P Q { a with defers:={ target:=.collected D,args:=#[] } :: a.defers } W) :
 (Code.rangeFunc g ps assign body).wpIn Fence.wide n P Q a w:=by
 refine wpIn_rangeFunc fun fn hfn=>?_
 let rec0:Loop:={ state:=.ready,pending:=none,fn:=fn,tmps:=a.tmps,params:=ps,assign:=assign,body:=body,defers:=w.heap.size }
 let W1:World:=(w.alloc (.deferred (some []))).alloc (.loop rec0)
 have hbook:Book w.heap.size rec0 W1:=by
  refine⟨(Below.heap_alloc _ _ _ (by simp)).trans (World.alloc_heap_new w _),?_⟩
  have:=World.alloc_heap_new (w.alloc (.deferred (some []))) (.loop rec0)
  rwa [World.size_alloc] at this
 have hs1:W1.heap.size=w.heap.size+2:=by simp[W1]
 have hw1:Below w.heap.size w W1:=((Below.refl _ w).alloc (Nat.le_refl _) _).alloc (by simp) _
 refine⟨w.heap.size+1,[{ target:=.collected w.heap.size,args:=#[] }],W1,{ target:=.fn (.func gf) lb,args:=#[.func (.yield (w.heap.size+1)) #[] #[]] },W1,gf,#[.func (.yield (w.heap.size+1)) #[] #[]]++lb,W1,
  run_enterLoop_outer _ _ _ _ _,by simp only[resolve,hg];simp[go_sem],fun f' _=>trivial,by simp[invoke,go_sem,eg],fun _=>h1,?_⟩
 have hbW:Below w0.heap.size w0 W1:=hb0.trans ((((Below.refl _ w).alloc (Nat.le_refl _) _).alloc (by simp) _).mono hb0.size)
 have up:∀ {row:Option Nat} {A:World},(∀ r,row=some r->W1.heap.size<=r/\∃ o:Obj,A.heap[r]?=some o/\o.isCells=false)->∀ r,row=some r->w.heap.size<=r/\∃ o:Obj,A.heap[r]?=some o/\o.isCells=false:=fun h r e=>⟨by have:=(h r e).1;omega,(h r e).2⟩
 refine callsIn_wide.2 ((hseq (w.heap.size+1) (fun pre W=>I pre W/\Book w.heap.size rec0 W) (fun pre W=>Ix pre W/\Book w.heap.size { rec0 with state:=.done,pending:=some .ret } W) W1 hbW (fun i hm=>by have:=hml i (hMine.grow (hCX _ _ (hC _ _ h0)) hn0 (z0w hw1) (fun r e=>by cases e) hm);omega)
  (fun s A B row hs hg hr=>⟨hI s A B row hs.1 hg (up hr),hs.2.grown (by omega) hg (fun r e=>(hr r e).1)⟩)
  (fun s A B row hs hg hr=>⟨hIx s A B row hs.1 hg (up hr),hs.2.grown (by omega) hg (fun r e=>(hr r e).1)⟩) (fun pre W1 h=>hC pre W1 h.1) ?_ ⟨hI.alloc _ (hI.alloc _ h0),hbook⟩).mono ?_)
 ·
  -- a round
  rintro pre x W m ⟨hi,hk⟩ hlen
  refine⟨fn,_,assign,body,run_yield hk.lp (hps x),?_⟩
  have hR:RoundIn Fence.wide (n - 1 - 1) P (w.heap.size+1) fn ((ps.zip (encs x)).foldl (fun t (p,v)=>t.setIfInBounds p v) a.tmps) assign body W (fun e W'=>(e=.returned (.bool true)/\(I (pre++[x]) W'/\Book w.heap.size rec0 W')/\KpM n₀ Mine W W'/\KeepsFrom W1.heap.size W W')\/(e=.returned (.bool false)/\(Ix (pre++[x]) W'/\Book w.heap.size { rec0 with state:=.done,pending:=some .ret } W')/\KeepsFrom W1.heap.size W W')):=by
   refine roundIn_of_wpIn hfn (hassign _ pre x W _ hi fun a' Wa hka hpa hia hax=>?_)
   have hka2:=hk.keeps hka
   refine⟨_,run_beginRound hka2.lp rfl,?_⟩
   have hput:∀ {A:World} {r:Loop} (r':Loop),X A->Book w.heap.size r A->KpM n₀ Mine A (A.putObj (w.heap.size+1) (.loop r')):=fun r' hx hA=>hMine.put _ _ _ _ hx (by omega) hA.lp rfl
   have hob:∀ {J:List α->World->Prop} {s:List α} {A:World} {r:Loop} (r':Loop),OwnFrom w.heap.size J->J s A->Book w.heap.size r A->J s (A.putObj (w.heap.size+1) (.loop r')):=fun r' hJ hs hA=>hJ.putObj _ hs (by omega) hA.lp rfl
   have hkq:∀ {A C:World},KeepsFrom w.heap.size A C->KeepsFrom W1.heap.size A C:=fun h=>z0o h (by omega)
   have hbusy:=hka2.turn { rec0 with state:=.busy }
   refine wpIn_mono (hbody _ pre x a' _ (by omega) ⟨_,hbusy.lp⟩ (hob _ hI hia hka2) ((hAx x a').putObj (s:=()) _ hax (by omega) hka2.lp rfl) hlen) ?_
   intro e a3 W3 hp
   cases e with
   | normal =>
    obtain⟨hkf,hkp,hi3⟩:=hp
    have hb3:=hbusy.keeps hkf
    exact⟨_,_,run_endRound none hb3.lp,.inl ⟨rfl,⟨hob _ hI hi3 hb3,hb3.turn rec0⟩,(hpa.trans (hput _ (hCX _ _ (hC _ _ hia)) hka2)).trans (hkp.trans (hput _ (hCX _ _ (hC _ _ hi3)) hb3)),(hkq hka).trans ((z1f _ _ (by omega)).trans ((hkq hkf).trans (z1f _ _ (by omega))))⟩⟩
   | ret =>
    obtain⟨hkf,hi3⟩:=hp
    have hb3:=hbusy.keeps hkf
    exact⟨_,_,run_endRound (some .ret) hb3.lp,.inr ⟨rfl,⟨hob _ hIx hi3 hb3,hb3.turn _⟩,(hkq hka).trans ((z1f _ _ (by omega)).trans ((hkq hkf).trans (z1f _ _ (by omega))))⟩⟩
   | exit id=>exact hp.elim
   | goto t=>exact hp.elim
   | panic ch=>exact hp.elim
   | outgrown=>exact hp.elim
  exact⟨hR.1,fun c cs _=>hR.2 c cs (fun d h=>by cases h)⟩
 ·
  -- behind the iterator
  rintro e W2 ⟨⟨v,rfl⟩,(⟨xs,hS,hi,hk⟩|⟨pre,hSp,hi,hk⟩)⟩
  ·have ht:=hk.turn { rec0 with state:=.exhausted }
   exact⟨none,_,run_endLoop hk.lp (by simp[rec0]),hdone _ xs _ (Nat.le_refl _) hS (hI.putObj _ hi (by omega) hk.lp rfl) ht.df⟩
  ·have ht:=hk.turn { rec0 with state:=.exhausted,pending:=some .ret }
   exact⟨some .ret,_,run_endLoop hk.lp (by simp),hstop _ pre _ (Nat.le_refl _) hSp (hIx.putObj _ hi (by omega) hk.lp rfl) ht.df⟩
end
def Marks (B:Nat):List Deferred->World->Prop
 | [],_=>True
 | d :: ds,w=>(∃ D,d={ target:=.collected D,args:=#[] }/\B<=D/\w.heap[D]?=some (.deferred (some []))/\(∀ d',d'∈ds->d'.target≠.collected D))/\Marks B ds w
section
variable {B:Nat} {ds:List Deferred} {w w':World}
theorem Marks.keeps:∀ {ds:List Deferred} {w w':World},Marks B ds w->KeepsFrom B w w'->Marks B ds w'
 | [],_,_,_,_=>trivial
 | _ :: _,_,_,⟨⟨D,h1,h2,h3,h4⟩,h⟩,k=>⟨⟨D,h1,h2,k.same _ _ h2 h3 rfl,h4⟩,h.keeps k⟩
theorem Marks.below:∀ {ds:List Deferred} {w w':World},Marks B ds w->Below w.heap.size w w'->Marks B ds w'
 | [],_,_,_,_=>trivial
 | _ :: _,_,_,⟨⟨D,h1,h2,h3,h4⟩,h⟩,k=>⟨⟨D,h1,h2,(k.block _ (lt_of_block h3)).trans h3,h4⟩,h.below k⟩
theorem Marks.lt:∀ {ds:List Deferred} {w:World},Marks B ds w->∀ d∈ds,∀ D,d.target=.collected D->D<w.heap.size
 | [],_,_,_,hd,_,_=>by simp at hd
 | _ :: _,_,⟨⟨D,h1,h2,h3,h4⟩,h⟩,d',hd,D',e=>by
  rcases List.mem_cons.1 hd with rfl|hd
  ·subst h1
   injection e with e
   subst e
   exact lt_of_block h3
  ·exact h.lt d' hd D' e
theorem Marks.grown:∀ {ds:List Deferred} {w w':World} {row:Option Nat} {C:Nat},Marks B ds w->w.grownBy w' row->(∀ r,row=some r->C<=r)->(∀ d∈ds,∀ D,d.target=.collected D->D<C)->Marks B ds w'
 | [],_,_,_,_,_,_,_,_=>trivial
 | d :: ds,_,_,_,_,⟨⟨D,h1,h2,h3,h4⟩,h⟩,hg,hr,hl=>⟨⟨D,h1,h2,(hg.block D (lt_of_block h3) (fun e=>by
  have:=hr D e.symm
  have:=hl d (List.mem_cons_self ..) D (by rw[h1])
  omega)).trans h3,h4⟩,h.grown hg hr fun d' hd=>hl d' (List.mem_cons_of_mem _ hd)⟩
theorem Marks.put:∀ {ds:List Deferred} {w:World} {D:Nat} (o:Obj),Marks B ds w->(∀ d',d'∈ds->d'.target≠.collected D)->Marks B ds (w.putObj D o)
 | [],_,_,_,_,_=>trivial
 | d :: ds,_,D,o,⟨⟨D',h1,h2,h3,h4⟩,h⟩,hn=>⟨⟨D',h1,h2,(World.putObj_heap_other (fun e=>hn d (List.mem_cons_self ..) (by rw[h1,e]))).trans h3,h4⟩,h.put o fun d' hd=>hn d' (List.mem_cons_of_mem _ hd)⟩
theorem Marks.cons {D:Nat} (h:Marks B ds w) (hB:B<=D) (hD:w.heap[D]?=some (.deferred (some []))) (hn:∀ d∈ds,∀ D',d.target=.collected D'->D'<D):Marks B ({ target:=.collected D,args:=#[] } :: ds) w :=
 ⟨⟨D,rfl,hB,hD,fun d' hd e=>Nat.lt_irrefl _ (hn d' hd D e)⟩,h⟩
theorem z2t {F:Fence} {n:Nat} {P:Program} {fn:Func} {tmps:Array Value} {R:Ending->World->Prop} (Pw:World->Prop) (hput:∀ w D,B<=D->Pw w->w.heap[D]?=some (.deferred (some []))->Pw (w.putObj D (.deferred none)))
 (hend:∀ w,Pw w->LeavesInM F n P fn tmps R [] .returning w):∀ (ds:List Deferred) (w:World),Marks B ds w->Pw w->LeavesInM F n P fn tmps R ds .returning w
 | [],w,_,hp=>hend w hp
 | d :: ds,w,⟨⟨D,h1,h2,h3,h4⟩,h⟩,hp=>⟨by simp,.inl ⟨D,_,by rw[h1],run_takeDeferred h3,z2t Pw hput hend ds _ (h.put _ h4) (hput w D h2 hp h3)⟩⟩
end
end Go.Burg
namespace Go.Proofs.YtgdmfledhhoedaaGreatDoor.T
set_option maxRecDepth 8000
open Go.ChangeShapes Go.WideShapes Go.ChangeAt Go.RowKit Go.Burg Go.Shelf
open Go.Burg.Lk
attribute [local go_sem] Oper.semAt_some
variable {t:Nat}
theorem below_at (slot gen:Int) (w:World) :
 Calls Tryz.prog 85 #[.pointer (some ⟨t,0,none⟩),.agg #[.int .i64 slot,.int .u32 gen]] w fun e w'=>e=.returned (.func (.func 107) #[] #[.pointer (some ⟨w.heap.size,0,none⟩),.pointer (some ⟨w.heap.size+1,0,none⟩)])/\w'=(w.alloc (.cells #[.pointer (some ⟨t,0,none⟩)] 25 (0,0))).alloc (.cells #[.int .i64 slot,.int .u32 gen] 36 (0,0)):=by
 have hmf:=makeF Tryz.prog
 go_enter Tryz.func85,Tryz.ntmps85
 go_wp2_with fail
 go_ret
 exact⟨rfl,rfl⟩
def encR (r:Int × Int):Array Value:=#[.agg #[.int .i64 r.1,.int .u32 r.2]]
structure BelC (X:World->Prop) (wz:World) (l:List (Cel Nd)) (S:Nat->Prop) (t sb sg kb km:Nat) (pre:List (Int × Int)) (W:World):Prop where
 t:∃ l' L' tk',TreeAt W t sb sg kb km l' L' tk'/\∀ x,S x->(∀ r,r∈pre->r.1≠(x:Int))->l'[x]?=l[x]?
 r:∀ (k:Nat) (cs:Array Value) (fr:Nat × Nat),wz.heap[k]?=some (.cells cs 36 fr)->W.heap[k]?=some (.cells cs 36 fr)
 x:X W
set_option maxRecDepth 100000 in
set_option maxHeartbeats 8000000 in
theorem below_walk {n₀:Nat} {wz:World} {l:List (Cel Nd)} {Z:Nat->Prop} {sb sg kb km i:Nat} {g:Int} {R:List (Int × Int)} (Mine:World->Nat->Prop) {X:World->Prop} (hMine:MineX n₀ Mine X)
 {Ks:List Kd} {ki:Nat->Nat} {Ss:Nat->Nat->Prop} {Rs:Nat->List (Int × Int)} {kn:Int} {cd vl pt:ByteArray} {ya za:Option Addr} {yn yc zc:Nat} {pl di:Bool}
 (hL:S.Live l i g i ⟨true,⟨kn,cd,vl,pt,⟨ya,yn,yc⟩,⟨za,Ks.length,zc⟩,pl,di⟩,g⟩) (hS:Z i)
 (hrow:∀ j kd,Ks[j]?=some kd->∃ gz cs fr,za=some ⟨gz,0,none⟩/\wz.heap[gz]?=some (.cells cs 36 fr)/\cs[j * 2]?=some (.int .i64 kd.s)/\cs[j * 2+1]?=some (.int .u32 kd.g))
 (hk:∀ j kd,Ks[j]?=some kd->kd.s=(ki j:Int)) (hR:R=(List.range Ks.length).flatMap Rs++[((i:Int),g)])
 (hSs:∀ j x,j<Ks.length->Ss j x->Z x/\x≠i) (hd:∀ j j' x r,j<Ks.length->j'<j->Ss j x->r∈Rs j'->r.1≠(x:Int))
 (IH:∀ j kd,Ks[j]?=some kd->∀ (A:Nat) (w0:World),w0.heap[A]?=some (.cells #[.pointer (some ⟨t,0,none⟩)] 25 (0,0))->w0.heap[A+1]?=some (.cells #[.int .i64 kd.s,.int .u32 kd.g] 36 (0,0))->n₀<=A->¬ Mine w0 A->¬ Mine w0 (A+1)->X w0->SeqOwnC (BelC X wz l (Ss j) t sb sg kb km) Mine Tryz.prog 107 #[.pointer (some ⟨A,0,none⟩),.pointer (some ⟨(A+1),0,none⟩)] encR n₀ (fun xs=>xs=Rs j) (fun pre=>pre <+: Rs j) w0)
 (A:Nat) (w0:World) (hA:w0.heap[A]?=some (.cells #[.pointer (some ⟨t,0,none⟩)] 25 (0,0))) (hA1:w0.heap[A+1]?=some (.cells #[.int .i64 i,.int .u32 g] 36 (0,0))) (hn:n₀<=A) (hm1:¬ Mine w0 A) (hm2:¬ Mine w0 (A+1)) (hx0:X w0) (hlen:Ks.length<=256) :
 SeqOwnC (BelC X wz l Z t sb sg kb km) Mine Tryz.prog 107 #[.pointer (some ⟨A,0,none⟩),.pointer (some ⟨(A+1),0,none⟩)] encR n₀ (fun xs=>xs=R) (fun pre=>pre <+: R) w0:=by
 intro LL J Jx W hW hml hJ hJx hC hY h0
 have hb1:=z0b hA hW (lt_of_block hA)
 have hb2:=z0b hA1 hW (lt_of_block hA1)
 have hlA:=lt_of_block hA1
 have hm1W:=hMine.priv hx0 (by omega) hm1 hW
 have hm2W:=hMine.priv hx0 (by omega) hm2 hW
 have hxW:=(hC _ _ h0).x
 have HA:=hid (z0c (o':=(.cells #[.func (.yield LL) #[] #[]] 118 (0,0))) hb1)
 have HA1:=hid (z0c (o':=(.cells #[.func (.yield LL) #[] #[]] 118 (0,0))) hb2)
 have HX:=hid (z0a W (.cells #[.func (.yield LL) #[] #[]] 118 (0,0)))
 have hBW:Below W.heap.size W (W.alloc (.cells #[.func (.yield LL) #[] #[]] 118 (0,0))):=(Below.refl _ _).alloc (Nat.le_refl _) _
 have hsz:=hW.size
 obtain⟨l',L',tk',hT,hlx⟩:=(hC _ _ h0).t
 have hL':S.Live l' i g i ⟨true,⟨kn,cd,vl,pt,⟨ya,yn,yc⟩,⟨za,Ks.length,zc⟩,pl,di⟩,g⟩:=⟨hL.1,(hlx i hS (fun r h=>by cases h)).trans hL.2.1,hL.2.2⟩
 have hT:=hT.keep hBW
 have HY:=hid hY
 have HC:=hid hC
 have HJ0:=hid (own_below hJ h0 hBW)
 have HM:Hid (¬ Mine (W.alloc (.cells #[.func (.yield LL) #[] #[]] 118 (0,0))) A/\¬ Mine (W.alloc (.cells #[.func (.yield LL) #[] #[]] 118 (0,0))) (A+1)/\¬ Mine (W.alloc (.cells #[.func (.yield LL) #[] #[]] 118 (0,0))) W.heap.size):=hid ⟨hMine.priv hxW (by omega) hm1W hBW,hMine.priv hxW (by omega) hm2W hBW,hMine.priv hxW (by omega) (fun h=>absurd (hml _ h) (Nat.lt_irrefl _)) hBW⟩
 have HXB:=hid (hMine.xb hxW (by omega) hBW)
 clear hA hA1 hW hb1 hb2 hY h0 hm1 hm2 hm1W hm2W hlx hC hml hx0 hxW
 refine (callsIn_wide (n:=8)).1 ?_
 refine callsIn_of_wp_marks Tryz.func107 rfl trivial ?_ rfl
 simp only[Tryz.ntmps107,List.size_toArray,List.length_cons,List.length_nil,Nat.reduceAdd,Nat.reduceSub,Array.replicate_succ,Array.replicate_zero,List.push_toArray,List.append_toArray,List.nil_append,List.cons_append]
 gi_wp2_with fail
 generalize hWb:W.alloc (.cells #[.func (.yield LL) #[] #[]] 118 (0,0))=Wb at *
 generalize hU:W.heap.size=U at *
 have HT:=hid (fun (w1:World) (hw1:Below Wb.heap.size Wb w1)=>node_at i g w1 (hT.keep hw1) hL')
 have HBW:=hid hBW
 clear hT hL' hBW
 refine wpIn_wide.2 ?_
 refine z0g 8 (fun w1=>Below (Wb).heap.size (Wb) w1) (by kernel_rfl) (by kernel_rfl) (by kernel_rfl) ⟨rfl,rfl,rfl,Nat.le_refl _,fun _ _=>rfl⟩ ?_
 dsimp only[List.take]
 iterate 5
  refine Seq.cons (a':=?_) ?_ ?_ ?_
  rotate_left
  ·intro w1 hw1
   have a0:=cell_of (z0b HA.out hw1 (lt_of_block HA.out)) 0;have a1:=cell_of (z0b HA1.out hw1 (lt_of_block HA1.out)) 0;have a2:=cell_of (z0b HA1.out hw1 (lt_of_block HA1.out)) 1
   go_wp2_with (go_at_call 32;refine (HT.out _ hw1).mono ?_;rintro e w' ⟨rfl,hb⟩)
   refine⟨?_,by first|assumption|(simpa using z0d hw1 hb hw1.size)⟩
   exact rfl
  ·kernel_rfl
 refine Seq.cons (a':=?_) ?_ ?_ ?_
 rotate_left
 ·intro w1 hw1
  have a0:=cell_of (z0b HA.out hw1 (lt_of_block HA.out)) 0;have a1:=cell_of (z0b HA1.out hw1 (lt_of_block HA1.out)) 0;have a2:=cell_of (z0b HA1.out hw1 (lt_of_block HA1.out)) 1
  refine wpList_field_run rfl (.tmp 11) 102 5 rfl _ (.slice za Ks.length zc) rfl rfl ?_
  go_wp2_with fail
  refine⟨?_,by first|assumption|(simpa using z0d hw1 hb hw1.size)⟩
  exact rfl
 ·kernel_rfl
 iterate 2
  refine Seq.cons (a':=?_) ?_ ?_ ?_
  rotate_left
  ·intro w1 hw1
   have a0:=cell_of (z0b HA.out hw1 (lt_of_block HA.out)) 0;have a1:=cell_of (z0b HA1.out hw1 (lt_of_block HA1.out)) 0;have a2:=cell_of (z0b HA1.out hw1 (lt_of_block HA1.out)) 1
   go_wp2_with (go_at_call 32;refine (HT.out _ hw1).mono ?_;rintro e w' ⟨rfl,hb⟩)
   refine⟨?_,by first|assumption|(simpa using z0d hw1 hb hw1.size)⟩
   exact rfl
  ·kernel_rfl
 refine SeqI.nil ?_
 intro _ w1 _ hw1
 dsimp only[List.drop]
 have HJ1:=hid (own_below hJ HJ0.out hw1)
 have k1:=hid (z0b HA.out hw1 (lt_of_block HA.out))
 have k2:=hid (z0b HA1.out hw1 (lt_of_block HA1.out))
 have kx:=hid (z0b HX.out hw1 (lt_of_block HX.out))
 have hWbs:U<Wb.heap.size:=lt_of_block HX.out
 have hw1s:=hw1.size
 have HM1:Hid (¬ Mine w1 A/\¬ Mine w1 (A+1)/\¬ Mine w1 U):=hid ⟨hMine.priv HXB.out (by omega) HM.out.1 hw1,hMine.priv HXB.out (by omega) HM.out.2.1 hw1,hMine.priv HXB.out (by omega) HM.out.2.2 hw1⟩
 clear hw1 HJ0 HA HA1 HX HT HM HBW HXB
 go_wp2_with fail
 gi_wp2_with fail
 refine wpIn_loop (fun a wr=>∃ (j:Nat) (ds:List Deferred) (u5 u6 u15 u16 u17 u18 u19 u20 u22 u23 u24 u25 u26:Value),(j<=Ks.length/\J ((List.range j).flatMap Rs) wr/\wr.heap[A]?=some (.cells #[.pointer (some ⟨t,0,none⟩)] 25 (0,0))/\wr.heap[A+1]?=some (.cells #[.int .i64 i,.int .u32 g] 36 (0,0))/\wr.heap[U]?=some (.cells #[.func (.yield LL) #[] #[]] 118 (0,0))/\(¬ Mine wr A/\¬ Mine wr (A+1)/\¬ Mine wr U)/\Marks (U+1) ds wr)/\a={ tmps:=#[.func (.yield LL) #[] #[],.pointer (some ⟨A,0,none⟩),.pointer (some ⟨(A+1),0,none⟩),.pointer (some ⟨U,0,none⟩),undef,u5,u6,.pointer (some ⟨t,0,none⟩),.pointer (some ⟨t,0,none⟩),.pointer (some ⟨t,0,none⟩),.agg #[.int .i64 i,.int .u32 g],.agg #[.int .i64 kn,.string cd,.string vl,.string pt,.slice ya yn yc,.slice za Ks.length zc],.slice za Ks.length zc,.int .i64 Ks.length,.int .i64 j,u15,u16,u17,u18,u19,u20,undef,u22,u23,u24,u25,u26,undef,undef,undef],defers:=ds }) (fun a _=>Ks.length - (intOf (a.tmps.getD 14 undef)).toNat) ?atStart ?round
 case atStart =>
  exact⟨0,[],_,_,_,_,_,_,_,_,_,_,_,_,_,⟨Nat.zero_le _,HJ1.out,k1.out,k2.out,kx.out,HM1.out,trivial⟩,rfl⟩
 case round =>
  clear HJ1 k1 k2 kx HM1
  rintro _ wr ⟨j,ds,u5,u6,u15,u16,u17,u18,u19,u20,u22,u23,u24,u25,u26,⟨hj,hJs,hA1,hA2,hU1,hmm,hmk⟩,rfl⟩
  have HMK:=hid hmk
  clear hmk
  have HJS:=hid hJs
  have HMM:=hid hmm
  have HA1:=hid hA1
  have HA2:=hid hA2
  have HU1:=hid hU1
  clear hJs hmm hA1 hA2 hU1
  by_cases hlt:j<Ks.length
  ·obtain⟨gz,cs,fr,rfl,hz,c0,c1⟩:=hrow j _ (List.getElem?_eq_getElem hlt)
   have hzr:=(HC.out _ _ HJS.out).r gz cs fr hz
   have hxr:=(HC.out _ _ HJS.out).x
   have z0:=(cell_of hzr (j * 2)).trans c0
   have z1:=(cell_of hzr (j * 2+1)).trans c1
   have a0:=cell_of HA1.out 0
   generalize hkd:Ks[j]=kd at *
   have hwk:Below wr.heap.size wr (wr.alloc (.cells #[.int .i64 kd.s,.int .u32 kd.g] 36 (0,0))):=(Below.refl _ _).alloc (Nat.le_refl _) _
   have b0:=cell_of (z0c (o':=(.cells #[.int .i64 kd.s,.int .u32 kd.g] 36 (0,0))) HA1.out) 0
   have b1:=cell_of (z0a wr (.cells #[.int .i64 kd.s,.int .u32 kd.g] 36 (0,0))) 0
   have b2:=cell_of (z0a wr (.cells #[.int .i64 kd.s,.int .u32 kd.g] 36 (0,0))) 1
   have hAr:=lt_of_block HA2.out
   clear hzr
   gi_wp2_with fail
   refine⟨trivial,?_⟩
   refine ((callsIn_wide (n:=7)).2 (below_at kd.s kd.g _)).mono ?_
   rintro e w2 ⟨rfl,rfl⟩
   rw[show (wr.alloc (.cells #[.int .i64 kd.s,.int .u32 kd.g] 36 (0,0))).heap.size=wr.heap.size+1 by simp]
   gi_wp2_with fail
   obtain⟨Wa,hWa⟩:∃ Wa,Wa=((wr.alloc (.cells #[.int .i64 kd.s,.int .u32 kd.g] 36 (0,0))).alloc (.cells #[.pointer (some ⟨t,0,none⟩)] 25 (0,0))).alloc (.cells #[.int .i64 kd.s,.int .u32 kd.g] 36 (0,0)):=⟨_,rfl⟩
   have hs1:(wr.alloc (.cells #[.int .i64 kd.s,.int .u32 kd.g] 36 (0,0))).heap.size=wr.heap.size+1:=by simp
   have hs2:((wr.alloc (.cells #[.int .i64 kd.s,.int .u32 kd.g] 36 (0,0))).alloc (.cells #[.pointer (some ⟨t,0,none⟩)] 25 (0,0))).heap.size=wr.heap.size+1+1:=by simp
   have hbA:Below wr.heap.size wr Wa:=by rw[hWa];exact (hwk.alloc (by simp) _).alloc (by simp;omega) _
   have hp:Wa.heap[wr.heap.size+1]?=some (.cells #[.pointer (some ⟨t,0,none⟩)] 25 (0,0)):=by rw[hWa,<- hs1];exact z0c (z0a _ _)
   have hq:Wa.heap[wr.heap.size+1+1]?=some (.cells #[.int .i64 kd.s,.int .u32 kd.g] 36 (0,0)):=by rw[hWa,<- hs2];exact z0a _ _
   rw[<- hWa]
   clear b0 b1 b2 hwk hs1 hs2 hWa
   generalize hV:wr.heap.size=V at *
   have hnm:∀ k,V<=k->¬ Mine Wa k:=fun k hk hm=>by
    have h1:=hMine.lt hxr (hMine.grow hxr (by omega) (z0w (by rw[hV];exact hbA)) (fun r e=>by cases e) hm)
    omega
   have hUV:U<V:=by rw[<- hV];exact lt_of_block HU1.out
   have HSEQ:=IH j kd (by rw[<- hkd];exact List.getElem?_eq_getElem hlt) (V+1) Wa hp hq (by omega) (hnm _ (by omega)) (hnm _ (by omega)) (hMine.xb hxr (by omega) (by rw[hV];exact hbA))
   have hf:=flat_split Rs hlt
   have hlenR:((List.range j).flatMap Rs).length+(Rs j).length<=R.length:=by rw[hR,hf];simp<;>omega
   have hpreR:(List.range j).flatMap Rs++Rs j <+: R:=by
    rw[hR,hf,<- List.append_assoc,List.append_assoc]
    exact List.prefix_append _ _
   have hpfm:∀ r,r∈(List.range j).flatMap Rs->∃ j',j'<j/\r∈Rs j':=fun r hr=>by
    obtain⟨j',h1,h2⟩:=List.mem_flatMap.1 hr
    exact⟨j',List.mem_range.1 h1,h2⟩
   have hsucc:(List.range (j+1)).flatMap Rs=(List.range j).flatMap Rs++Rs j:=by rw[List.range_succ,List.flatMap_append];simp
   clear hf
   generalize hpf:(List.range j).flatMap Rs=pf at *
   have hbW:Below wr.heap.size wr Wa:=by rw[hV];exact hbA
   have hWas:V<=Wa.heap.size:=by have:=hbW.size;omega
   have hnw:n₀<=wr.heap.size:=by omega
   have HMKa:=hid (HMK.out.below hbW)
   have hI:OwnFrom Wa.heap.size (fun (pre:List (Int × Int)) W=>J (pf++pre) W/\(W.heap[A]?=some (.cells #[.pointer (some ⟨t,0,none⟩)] 25 (0,0))/\W.heap[A+1]?=some (.cells #[.int .i64 i,.int .u32 g] 36 (0,0))/\W.heap[U]?=some (.cells #[.func (.yield LL) #[] #[]] 118 (0,0)))/\(¬ Mine W A/\¬ Mine W (A+1)/\¬ Mine W U)/\Marks (U+1) ds W):=by
    intro s A' C row hs hg hr
    have e:∀ (k:Nat),k<Wa.heap.size->k<A'.heap.size->C.heap[k]?=A'.heap[k]?:=fun k hk hA=>hg.block k hA (fun e=>by have:=(hr k e.symm).1;omega)
    obtain⟨h1,⟨c1,c2,c3⟩,⟨m1,m2,m3⟩,h4⟩:=hs
    have hnA:n₀<=A'.heap.size:=by have:=lt_of_block c1;omega
    have gm:∀ k,Mine C k->Mine A' k:=fun k=>hMine.grow (HC.out _ _ h1).x hnA hg (fun r e=>⟨by have:=(hr r e).1;omega,(hr r e).2⟩)
    exact⟨hJ _ A' C row h1 hg (fun r e=>⟨by have:=(hr r e).1;omega,(hr r e).2⟩),⟨(e _ (by omega) (lt_of_block c1)).trans c1,(e _ (by omega) (lt_of_block c2)).trans c2,(e _ (by omega) (lt_of_block c3)).trans c3⟩,⟨fun h=>m1 (gm _ h),fun h=>m2 (gm _ h),fun h=>m3 (gm _ h)⟩,h4.grown hg (fun r e=>(hr r e).1) (fun d hd D e=>HMKa.out.lt d hd D e)⟩
   have hX:OwnFrom Wa.heap.size (fun (pre:List (Int × Int)) W=>Jx (pf++pre) W/\Marks (U+1) ds W):=by
    intro s A' C row hs hg hr
    exact⟨hJx _ A' C row hs.1 hg (fun r e=>⟨by have:=(hr r e).1;omega,(hr r e).2⟩),hs.2.grown hg (fun r e=>(hr r e).1) (fun d hd D e=>HMKa.out.lt d hd D e)⟩
   have hCj:∀ (pre:List (Int × Int)) W1,(J (pf++pre) W1/\(W1.heap[A]?=some (.cells #[.pointer (some ⟨t,0,none⟩)] 25 (0,0))/\W1.heap[A+1]?=some (.cells #[.int .i64 i,.int .u32 g] 36 (0,0))/\W1.heap[U]?=some (.cells #[.func (.yield LL) #[] #[]] 118 (0,0)))/\(¬ Mine W1 A/\¬ Mine W1 (A+1)/\¬ Mine W1 U)/\Marks (U+1) ds W1)->BelC X wz l (Ss j) t sb sg kb km pre W1:=by
    rintro pre W1 ⟨h1,_⟩
    obtain⟨⟨l2,L2,tk2,t1,t2⟩,t3,t4⟩:=HC.out _ _ h1
    refine⟨⟨l2,L2,tk2,t1,fun x hx hn=>t2 x (hSs j x hlt hx).1 (fun r hr=>?_)⟩,t3,t4⟩
    rcases List.mem_append.1 hr with hr|hr
    ·obtain⟨j',h3,h4⟩:=hpfm r hr
     exact hd j j' x r hlt h3 hx h4
    ·exact hn r hr
   have h0:J (pf++[]) Wa:=by rw[List.append_nil];exact own_below hJ HJS.out hbW
   have hcA:Wa.heap[A]?=some (.cells #[.pointer (some ⟨t,0,none⟩)] 25 (0,0)):=(hbW.block A (lt_of_block HA1.out)).trans HA1.out
   have hcA1:Wa.heap[A+1]?=some (.cells #[.int .i64 i,.int .u32 g] 36 (0,0)):=(hbW.block _ (lt_of_block HA2.out)).trans HA2.out
   have hcU:Wa.heap[U]?=some (.cells #[.func (.yield LL) #[] #[]] 118 (0,0)):=(hbW.block U (lt_of_block HU1.out)).trans HU1.out
   have HI:=hid hI
   have HX:=hid hX
   have HCJ:=hid hCj
   have HSEQ:=hid HSEQ
   have H0:=hid (And.intro h0 (And.intro (And.intro hcA (And.intro hcA1 hcU)) (And.intro (And.intro (hMine.priv hxr hnw HMM.out.1 hbW) (And.intro (hMine.priv hxr hnw HMM.out.2.1 hbW) (hMine.priv hxr hnw HMM.out.2.2 hbW))) HMKa.out)))
   have HXA:=hid (hMine.xb hxr hnw hbW)
   clear hI hX hCj h0 hcA hcA1 hcU HA1 HA2 HU1 HMM HMK HJS hp hq z0 z1 a0 hz c0 c1 hbA hbW hnm hpf hxr
   refine range_ownC (n:=8) (by decide) (gf:=107) (lb:=#[.pointer (some ⟨(V+1),0,none⟩),.pointer (some ⟨(V+1+1),0,none⟩)]) rfl (enters_of Tryz.func107 (by kernel_rfl) rfl) Mine hMine (BelC X wz l (Ss j) t sb sg kb km) (fun _ _ h=>h.x) HSEQ.out (by omega) (fun _=>hMine.lt HXA.out) (Below.refl _ _) (fun _=>rfl)
    (fun (pre:List (Int × Int)) W=>J (pf++pre) W/\(W.heap[A]?=some (.cells #[.pointer (some ⟨t,0,none⟩)] 25 (0,0))/\W.heap[A+1]?=some (.cells #[.int .i64 i,.int .u32 g] 36 (0,0))/\W.heap[U]?=some (.cells #[.func (.yield LL) #[] #[]] 118 (0,0)))/\(¬ Mine W A/\¬ Mine W (A+1)/\¬ Mine W U)/\Marks (U+1) ds W) (fun (pre:List (Int × Int)) W=>Jx (pf++pre) W/\Marks (U+1) ds W) HI.out HX.out HCJ.out H0.out
    (fun (x:Int × Int) a' W=>∃ b,W.heap[b]?=some (.cells #[.int .i64 x.1,.int .u32 x.2] 36 (0,0))/\a'={ tmps:=#[.func (.yield LL) #[] #[],.pointer (some ⟨A,0,none⟩),.pointer (some ⟨(A+1),0,none⟩),.pointer (some ⟨U,0,none⟩),undef,.pointer (some ⟨V,0,none⟩),.pointer (some ⟨b,0,none⟩),.pointer (some ⟨t,0,none⟩),.pointer (some ⟨t,0,none⟩),.pointer (some ⟨t,0,none⟩),.agg #[.int .i64 i,.int .u32 g],.agg #[.int .i64 kn,.string cd,.string vl,.string pt,.slice ya yn yc,.slice (some ⟨gz,0,none⟩) Ks.length zc],.slice (some ⟨gz,0,none⟩) Ks.length zc,.int .i64 Ks.length,.int .i64 j,(.bool true),(.pointer (some ⟨gz,j * 2,none⟩)),.agg #[.int .i64 kd.s,.int .u32 kd.g],.pointer (some ⟨t,0,none⟩),.agg #[.int .i64 kd.s,.int .u32 kd.g],(.func (.func 107) #[] #[.pointer (some ⟨(V+1),0,none⟩),.pointer (some ⟨(V+1+1),0,none⟩)]),.agg #[.int .i64 x.1,.int .u32 x.2],u22,u23,u24,u25,u26,undef,undef,undef],defers:=[] }) ?hAx ?assign ?body ?done ?stop
   case hAx =>
    rintro x a' _ A' C row ⟨b,h1,h2⟩ hg hr
    refine⟨b,(hg.block b (lt_of_block h1) (fun e=>?_)).trans h1,h2⟩
    obtain⟨_,o,h3,h4⟩:=hr b e.symm
    rw[h1] at h3
    cases h3
    cases h4
   case assign =>
    intro l pre x W1 K hi hK
    unfold encR
    have hbx:Below W1.heap.size W1 (W1.alloc (.cells #[.int .i64 x.1,.int .u32 x.2] 36 (0,0))):=(Below.refl _ _).alloc (Nat.le_refl _) _
    have HKX:=hid (hK · _ (z1n hbx) (hMine.below (HC.out _ _ hi.1).x (by have:=lt_of_block hi.2.1.1;omega) hbx) (own_below HI.out hi hbx))
    have HNX:=hid (z0a W1 (.cells #[.int .i64 x.1,.int .u32 x.2] 36 (0,0)))
    clear hK hbx
    gi_wp2_with fail
    exact HKX.out _ ⟨_,HNX.out,rfl⟩
   case body =>
    rintro l pre x a' W1 hl hrec ⟨hj1,⟨hc1,hc2,hc3⟩,hmm,hmk⟩ ⟨b,hb,rfl⟩ hlen1
    have x0:=cell_of hc3 0
    have b0:=cell_of hb 0
    have b1:=cell_of hb 1
    obtain⟨fn,tmps,assign,body,hy,hR1⟩:=HY.out _ x _ 5 hj1 (by rw[List.append_assoc];exact ((List.prefix_append_right_inj pf).2 hlen1).trans hpreR)
    unfold encR at hy
    try dsimp only at hy
    have HRR:=hid (z2w l hR1)
    have HCC:=hid (And.intro hc1 (And.intro hc2 hc3))
    have HMM:=hid hmm
    have HMK:=hid hmk
    clear hR1 hj1 hc1 hc2 hc3 hmm hmk
    gi_wp2_with fail
    refine HRR.out.mono ?_
    rintro e W3 (⟨rfl,hJ3,hk3,hq3⟩|⟨rfl,hJx3,hq3⟩)
    ·have HQ:=hid (And.intro hJ3 (And.intro hk3 hq3))
     clear hJ3 hk3 hq3 HRR
     gi_wp2_with fail
     obtain⟨hJ3,hk3,hq3⟩:=HQ.out
     obtain⟨c1,c2,c3⟩:=HCC.out
     obtain⟨m1,m2,m3⟩:=HMM.out
     refine⟨z0o hq3 (by omega),hk3,?_,⟨hk3.cells A _ (by omega) m1 c1 rfl,hk3.cells (A+1) _ (by omega) m2 c2 rfl,hk3.cells U _ (by omega) m3 c3 rfl⟩,⟨hk3.priv m1 (lt_of_block c1),hk3.priv m2 (lt_of_block c2),hk3.priv m3 (lt_of_block c3)⟩,HMK.out.keeps (z0o hq3 (by omega))⟩
     rw[<- List.append_assoc]
     exact hJ3
    ·have HQ:=hid (And.intro hJx3 hq3)
     clear hJx3 hq3 HRR
     gi_wp2_with fail
     obtain⟨hJx3,hq3⟩:=HQ.out
     refine⟨z0o hq3 (by omega),?_,HMK.out.keeps (z0o hq3 (by omega))⟩
     rw[<- List.append_assoc]
     exact hJx3
   case done =>
    rintro D xs W4 hD rfl ⟨hj1,⟨c1,c2,c3⟩,hmm,hmk⟩ hK
    have HQ:=hid (And.intro hj1 (And.intro c1 (And.intro c2 (And.intro c3 (And.intro hmm (hmk.cons (by omega) hK (fun d hd D' e=>by have:=HMKa.out.lt d hd D' e;omega)))))))
    clear hj1 c1 c2 c3 hmm hmk hK
    gi_wp2_with fail
    obtain⟨hj1,c1,c2,c3,hmm,hmk⟩:=HQ.out
    rw[<- hsucc] at hj1
    exact⟨⟨j+1,_,_,_,_,_,_,_,_,_,_,_,_,_,_,⟨by omega,hj1,c1,c2,c3,hmm,hmk⟩,rfl⟩,by simp[intOf];omega⟩
   case stop =>
    rintro D pre W4 hD hpre ⟨hj1,hmk⟩ hK
    have HQ:=hid (And.intro hj1 (hmk.cons (by omega) hK (fun d hd D' e=>by have:=HMKa.out.lt d hd D' e;omega)))
    clear hj1 hmk hK
    gi_wp2_with fail
    refine z2t (B:=U+1) (fun W'=>Jx (pf++pre) W') (fun w' D hD hj hK=>hJx.putObj (.deferred none) hj (by omega) hK rfl) (fun w' hj=>?_) _ W4 HQ.out.2 HQ.out.1
    exact⟨_,results_none rfl _ _ _,⟨_,rfl⟩,.inr ⟨_,((List.prefix_append_right_inj pf).2 hpre).trans hpreR,hj⟩⟩
  ·obtain rfl:j=Ks.length:=by omega
   have a1:=cell_of HA2.out 0
   have a2:=cell_of HA2.out 1
   have x0:=cell_of HU1.out 0
   obtain⟨fn,tmps,assign,body,hy,hRR⟩:=HY.out _ ((i:Int),g) _ 7 HJS.out (by rw[hR];exact List.prefix_rfl)
   unfold encR at hy
   dsimp only at hy
   have HRR:=hid hRR
   clear hRR
   gi_wp2_with fail
   refine HRR.out.mono ?_
   rintro e W3 (⟨rfl,hJ3,_,hk3⟩|⟨rfl,hJ3,hk3⟩)
   all_goals
    rw[<- hR] at hJ3
    have HJ3:=hid hJ3
    have HMK3:Hid (Marks (U+1) ds W3):=hid (HMK.out.keeps (z0o hk3 (by omega)))
    clear hJ3 HRR HJS hk3
    gi_wp2_with fail
   ·refine z2t (B:=U+1) (fun W'=>J R W') (fun w' D hD hj hK=>hJ.putObj (.deferred none) hj (by omega) hK rfl) (fun w' hj=>?_) ds W3 HMK3.out HJ3.out
    exact⟨_,results_none rfl _ _ _,⟨_,rfl⟩,.inl ⟨_,rfl,hj⟩⟩
   ·refine z2t (B:=U+1) (fun W'=>Jx R W') (fun w' D hD hj hK=>hJx.putObj (.deferred none) hj (by omega) hK rfl) (fun w' hj=>?_) ds W3 HMK3.out HJ3.out
    exact⟨_,results_none rfl _ _ _,⟨_,rfl⟩,.inr ⟨_,List.prefix_rfl,hj⟩⟩
end Go.Proofs.YtgdmfledhhoedaaGreatDoor.T
