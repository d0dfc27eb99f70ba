/- Part 25 of 27. -/
import Derived.Test.YtgdmfledhhoedaaGreatDoorD21
import Derived.Test.YtgdmfledhhoedaaGreatDoorD01
import Derived.BigQuiet
import Derived.Test.YtgdmfledhhoedaaGreatDoorD22
import Derived.Test.YtgdmfledhhoedaaGreatDoorD14
import Derived.Test.YtgdmfledhhoedaaGreatDoorD19
namespace Go.Proofs.YtgdmfledhhoedaaGreatDoor.T
set_option maxRecDepth 8000
open Go.ChangeShapes Go.WideShapes Go.ChangeAt Go.RowKit Go.Burg
open Go.Burg.Purse (St Inv)
variable {a c t x:Nat} {l:Nat->Ten}
set_option maxHeartbeats 1000000 in
theorem good1_any {n:Nat} (tn gn rt:Int) (w:World) (h:TabAt 87 w x t l) (h2:n<=16) (ha:w.heap[a]?=some (.cells #[.int .i64 tn,.int .u32 gn,.int .u8 rt] 51 (0,0))) (hc:w.heap[c]?=some (.cells #[.bool false] 4 (0,0))) (v:Bool) (hv:(hRight tn gn rt && ((l n).gen == gn))=v) :
 Calls Tryz.prog 51 #[.pointer (some ⟨x,1+n * 4,none⟩),.pointer (some ⟨a,0,none⟩),.pointer (some ⟨c,0,none⟩)] w fun e w'=>e=.returned (.tuple #[])/\w'.heap[c]?=some (.cells #[.bool v] 4 (0,0))/\Mod (·=c) w w':=by
 have hx:=h.lt
 have hal:=lt_of_block ha
 have hcl:=lt_of_block hc
 have H:=hid h
 have HA:=hid ha
 have HC:=hid hc
 have HR:=hid (Right_any tn gn rt)
 have a0:=cell_of ha 0
 have a1:=cell_of ha 1
 have a2:=cell_of ha 2
 clear h ha hc
 have ne1:a≠c:=fun e=>by subst e;rw[HC.out] at HA;have:=HA.out;simp at this
 have ne2:x≠c:=fun e=>by subst e;have h1:=H.out.head.1;rw[cell_of HC.out 0] at h1;simp at h1
 clear a0 a1 a2
 generalize hRight tn gn rt=r at HR hv
 cases r
 ·simp only[Bool.false_and] at hv
  subst hv
  go_enter Tryz.func51,Tryz.ntmps51
  refine z0f 12 (Turn 11 (fun w1=>Mod (·=c) w w1/\w1.heap[c]?=w.heap[c]?) (fun w1=>Mod (·=c) w w1/\w1.heap[c]?=some (.cells #[.bool false] 4 (0,0)))) (by kernel_rfl) (by kernel_rfl) (by kernel_rfl) (Turn.start ⟨(Mod.refl (·=c) w).drew,rfl⟩) ?_
  dsimp only[List.take]
  iterate 11
   refine Seq.calm (a':=?_) (by decide) ?_ ?_ ?_
   rotate_left
   ·intro w1 hw1
    have hM:Mod (·=c) w w1:=hw1.elim (·.1) (·.1)
    obtain⟨c0,_,_,_⟩:=(H.out.mod hM ne2).cell (show n<17 by omega)
    have ha:=(hM.block a hal ne1).trans HA.out
    have a0:=cell_of ha 0
    have a1:=cell_of ha 1
    have a2:=cell_of ha 2
    clear ha hM hw1
    go_wp2_with (go_at_call 52;refine (HR.out _).mono ?_;rintro e w2 ⟨rfl,hB⟩)
    first|(refine⟨?_,id,id⟩;exact rfl)|(refine⟨?_,fun h=>⟨h.1.trans (Mod.z0j hB) (fun _ _ h=>h),(hB.block c (Nat.lt_of_lt_of_le hcl h.1.size)).trans h.2⟩,fun h=>⟨h.1.trans (Mod.z0j hB) (fun _ _ h=>h),(hB.block c (Nat.lt_of_lt_of_le hcl h.1.size)).trans h.2⟩⟩;exact rfl)
   ·kernel_rfl
  refine Seq.turn (a':=?_) ?_ ?_ ?_
  rotate_left
  ·intro w1 hw1
   have hc:=hw1.2.trans HC.out
   have k0:=cell_of hc 0
   have kf:=z0e hc
   have HM:=hid hw1.1
   clear hw1
   go_wp2_with fail
   refine⟨?_,Mod.setCell (S:=(·=c)) (p:=⟨c,0,none⟩) HM.out (.inl rfl) _,z0y hc rfl⟩
   exact rfl
  ·kernel_rfl
  iterate 0
   refine Seq.calm (a':=?_) (by decide) ?_ ?_ ?_
   rotate_left
   ·intro w1 hw1
    have hM:Mod (·=c) w w1:=hw1.elim (·.1) (·.1)
    obtain⟨c0,_,_,_⟩:=(H.out.mod hM ne2).cell (show n<17 by omega)
    have ha:=(hM.block a hal ne1).trans HA.out
    have a0:=cell_of ha 0
    have a1:=cell_of ha 1
    have a2:=cell_of ha 2
    clear ha hM hw1
    go_wp2_with (go_at_call 52;refine (HR.out _).mono ?_;rintro e w2 ⟨rfl,hB⟩)
    first|(refine⟨?_,id,id⟩;exact rfl)|(refine⟨?_,fun h=>⟨h.1.trans (Mod.z0j hB) (fun _ _ h=>h),(hB.block c (Nat.lt_of_lt_of_le hcl h.1.size)).trans h.2⟩,fun h=>⟨h.1.trans (Mod.z0j hB) (fun _ _ h=>h),(hB.block c (Nat.lt_of_lt_of_le hcl h.1.size)).trans h.2⟩⟩;exact rfl)
   ·kernel_rfl
  refine SeqI.nil ?_
  intro D w1 hD hI
  replace hI:=hI.done (hD 11 (by omega))
  clear hD
  dsimp only[List.drop]
  go_end0
  exact⟨rfl,hI.2,hI.1⟩
 ·simp only[Bool.true_and] at hv
  subst hv
  go_enter Tryz.func51,Tryz.ntmps51
  refine z0f 12 (Turn 11 (fun w1=>Mod (·=c) w w1/\w1.heap[c]?=w.heap[c]?) (fun w1=>Mod (·=c) w w1/\w1.heap[c]?=some (.cells #[.bool ((l n).gen == gn)] 4 (0,0)))) (by kernel_rfl) (by kernel_rfl) (by kernel_rfl) (Turn.start ⟨(Mod.refl (·=c) w).drew,rfl⟩) ?_
  dsimp only[List.take]
  iterate 11
   refine Seq.calm (a':=?_) (by decide) ?_ ?_ ?_
   rotate_left
   ·intro w1 hw1
    have hM:Mod (·=c) w w1:=hw1.elim (·.1) (·.1)
    obtain⟨c0,_,_,_⟩:=(H.out.mod hM ne2).cell (show n<17 by omega)
    have ha:=(hM.block a hal ne1).trans HA.out
    have a0:=cell_of ha 0
    have a1:=cell_of ha 1
    have a2:=cell_of ha 2
    clear ha hM hw1
    go_wp2_with (go_at_call 52;refine (HR.out _).mono ?_;rintro e w2 ⟨rfl,hB⟩)
    first|(refine⟨?_,id,id⟩;exact rfl)|(refine⟨?_,fun h=>⟨h.1.trans (Mod.z0j hB) (fun _ _ h=>h),(hB.block c (Nat.lt_of_lt_of_le hcl h.1.size)).trans h.2⟩,fun h=>⟨h.1.trans (Mod.z0j hB) (fun _ _ h=>h),(hB.block c (Nat.lt_of_lt_of_le hcl h.1.size)).trans h.2⟩⟩;exact rfl)
   ·kernel_rfl
  refine Seq.turn (a':=?_) ?_ ?_ ?_
  rotate_left
  ·intro w1 hw1
   have hc:=hw1.2.trans HC.out
   have k0:=cell_of hc 0
   have kf:=z0e hc
   have HM:=hid hw1.1
   clear hw1
   go_wp2_with fail
   refine⟨?_,Mod.setCell (S:=(·=c)) (p:=⟨c,0,none⟩) HM.out (.inl rfl) _,z0y hc rfl⟩
   exact rfl
  ·kernel_rfl
  iterate 0
   refine Seq.calm (a':=?_) (by decide) ?_ ?_ ?_
   rotate_left
   ·intro w1 hw1
    have hM:Mod (·=c) w w1:=hw1.elim (·.1) (·.1)
    obtain⟨c0,_,_,_⟩:=(H.out.mod hM ne2).cell (show n<17 by omega)
    have ha:=(hM.block a hal ne1).trans HA.out
    have a0:=cell_of ha 0
    have a1:=cell_of ha 1
    have a2:=cell_of ha 2
    clear ha hM hw1
    go_wp2_with (go_at_call 52;refine (HR.out _).mono ?_;rintro e w2 ⟨rfl,hB⟩)
    first|(refine⟨?_,id,id⟩;exact rfl)|(refine⟨?_,fun h=>⟨h.1.trans (Mod.z0j hB) (fun _ _ h=>h),(hB.block c (Nat.lt_of_lt_of_le hcl h.1.size)).trans h.2⟩,fun h=>⟨h.1.trans (Mod.z0j hB) (fun _ _ h=>h),(hB.block c (Nat.lt_of_lt_of_le hcl h.1.size)).trans h.2⟩⟩;exact rfl)
   ·kernel_rfl
  refine SeqI.nil ?_
  intro D w1 hD hI
  replace hI:=hI.done (hD 11 (by omega))
  clear hD
  dsimp only[List.drop]
  go_end0
  exact⟨rfl,hI.2,hI.1⟩
theorem of_arg (n:Int) (f:Value) (w:World) (h:TabAt 87 w x t l) (hn:n<1\/16<n) :
 Calls Tryz.prog 23 #[.pointer (some ⟨x,0,none⟩),.int .i64 n,f] w fun e w'=>e=.returned (.int .i64 2)/\w=w':=by
 have HT:=hid (z1i w h)
 clear h
 by_cases h1:n<1
 ·have g1:decide (n<1)=true:=by simpa using h1
  clear hn h1
  go_enter Tryz.func23,Tryz.ntmps23
  go_wp2_with (go_at_call 55;refine HT.out.mono ?_;rintro e w2 ⟨rfl,rfl⟩)
  go_ret
  exact⟨rfl,rfl⟩
 ·have g1:decide (n<1)=false:=by simpa using h1
  have g2:decide (n > 16)=true:=by simp;omega
  clear hn h1
  go_enter Tryz.func23,Tryz.ntmps23
  go_wp2_with (go_at_call 55;refine HT.out.mono ?_;rintro e w2 ⟨rfl,rfl⟩)
  go_ret
  exact⟨rfl,rfl⟩
def goodB (l:Nat->Ten) (tn gn rt:Int):Bool:=(l tn.toNat).purse.isSome && (hRight tn gn rt && ((l tn.toNat).gen == gn))
theorem of_good (tn gn rt:Int) (w:World) (h:TabAt 87 w x t l) (ha:w.heap[a]?=some (.cells #[.int .i64 tn,.int .u32 gn,.int .u8 rt] 51 (0,0))) (hc:w.heap[c]?=some (.cells #[.bool false] 4 (0,0))) :
 Calls Tryz.prog 23 #[.pointer (some ⟨x,0,none⟩),.int .i64 tn,.func (.func 51) #[] #[.pointer (some ⟨a,0,none⟩),.pointer (some ⟨c,0,none⟩)]] w fun e w'=>(∃ r,e=.returned (.int .i64 r))/\w'.heap[c]?=some (.cells #[.bool (goodB l tn gn rt)] 4 (0,0))/\Mod (·=c) w w':=by
 by_cases hn:tn<1\/16<tn
 ·refine (of_arg tn _ w h hn).mono ?_
  rintro e w' ⟨rfl,rfl⟩
  have e0:goodB l tn gn rt=false:=by
   have:hRight tn gn rt=false:=by unfold hRight;rcases hn with h|h<;>simp<;>omega
   simp[goodB,this]
  rw[e0]
  exact⟨⟨_,rfl⟩,hc,Mod.refl _ _⟩
 ·obtain⟨n,rfl⟩:∃ n:Nat,tn=n:=⟨tn.toNat,by omega⟩
  have h1:1<=n:=by omega
  have h2:n<=16:=by omega
  cases hp:(l n).purse with
  | none =>
   refine (of_none _ w h h1 h2 hp).mono ?_
   rintro e w' ⟨rfl,rfl⟩
   have e0:goodB l n gn rt=false:=by simp[goodB,hp]
   rw[e0]
   exact⟨⟨_,rfl⟩,hc,Mod.refl _ _⟩
  | some p =>
   have e0:goodB l n gn rt=(hRight n gn rt && ((l n).gen == gn)):=by simp[goodB,hp]
   have HI:=hid (good1_any n gn rt w h h2 ha hc (goodB l n gn rt) e0.symm)
   clear ha hc hn e0
   have HT:=hid (z1i w h)
   obtain⟨_,cf⟩:=h.head
   obtain⟨c0,c1,c2,c3⟩:=h.cell (show n<17 by omega)
   rw[hp] at c3
   simp only[Option.map_some] at c3
   clear c0 c1 c2 hp
   have g1:decide ((n:Int)<1)=false:=by simp;omega
   have g2:decide ((n:Int) > 16)=false:=by simp;omega
   go_enter Tryz.func23,Tryz.ntmps23
   go_wp2_with (first|(go_at_call 55;refine HT.out.mono ?_;rintro e w2 ⟨rfl,rfl⟩)|(go_at_call 51;refine HI.out.mono ?_;rintro e w2 ⟨rfl,hC,hM⟩))
   go_ret
   exact⟨⟨_,rfl⟩,hC,hM⟩
set_option maxHeartbeats 1000000 in
theorem Good_at (tn gn rt:Int) (w:World) (h:TabAt 87 w x t l):Calls Tryz.prog 19 #[.pointer (some ⟨x,0,none⟩),.agg #[.int .i64 tn,.int .u32 gn,.int .u8 rt]] w fun e w'=>e=.returned (.bool (goodB l tn gn rt))/\Below w.heap.size w w':=by
 have hN:=z0a w (.cells #[.int .i64 tn,.int .u32 gn,.int .u8 rt] 51 (0,0))
 have hA:=(h.alloc (.cells #[.int .i64 tn,.int .u32 gn,.int .u8 rt] 51 (0,0))).alloc (.cells #[.bool false] 4)
 have hN1:=z0c (o':=.cells #[.bool false] 4) hN
 have hN2:=z0a (w.alloc (.cells #[.int .i64 tn,.int .u32 gn,.int .u8 rt] 51 (0,0))) (.cells #[.bool false] 4)
 rw[show (w.alloc (.cells #[.int .i64 tn,.int .u32 gn,.int .u8 rt] 51 (0,0))).heap.size=w.heap.size+1 by simp] at hN2
 have a0:=cell_of hN1 0
 have HI:=hid (of_good tn gn rt _ hA hN1 hN2)
 clear hA hN hN1 hN2 h
 generalize goodB l tn gn rt=v at HI
 go_enter Tryz.func19,Tryz.ntmps19
 go_wp2_with (go_at_call 23;refine HI.out.mono ?_;rintro e w2 ⟨⟨r,rfl⟩,hC,hM⟩;have HM:=hid hM;have k0:=cell_of hC 0;clear hM hC)
 go_ret
 refine⟨rfl,?_⟩
 have hM:=HM.out
 have h0:Below w.heap.size w ((w.alloc (.cells #[.int .i64 tn,.int .u32 gn,.int .u8 rt] 51 (0,0))).alloc (.cells #[.bool false] 4)):=((Below.refl _ _).alloc (Nat.le_refl _) _).alloc (by simp) _
 exact h0.trans ⟨hM.os,hM.tape,hM.output,hM.size,fun k hk=>hM.block k (by simp;omega) (by omega)⟩
def mayI (l:Nat->Ten) (tn gn rt d:Int):Int:=if goodB l tn gn rt then (if hAllows tn gn rt d then 0 else 12) else 11
theorem May_at (tn gn rt d:Int) (w:World) (h:TabAt 87 w x t l):Calls Tryz.prog 173 #[.pointer (some ⟨x,0,none⟩),.agg #[.int .i64 tn,.int .u32 gn,.int .u8 rt],.int .i64 d] w fun e w'=>e=.returned (.int .i64 (mayI l tn gn rt d))/\Below w.heap.size w w':=by
 have hN:=hid (z0a w (.cells #[.int .i64 tn,.int .u32 gn,.int .u8 rt] 51 (0,0)))
 have hA:=h.alloc (.cells #[.int .i64 tn,.int .u32 gn,.int .u8 rt] 51 (0,0))
 have HG:=hid (Good_at tn gn rt _ hA)
 have HA:=hid (allows_any tn gn rt d)
 have hb0:Hid (Below w.heap.size w (w.alloc (.cells #[.int .i64 tn,.int .u32 gn,.int .u8 rt] 51 (0,0)))):=hid ((Below.refl _ _).alloc (Nat.le_refl _) _)
 clear h hA
 unfold mayI
 generalize goodB l tn gn rt=g at HG
 generalize hAllows tn gn rt d=s at HA
 cases g<;>cases s
 all_goals
  simp only[if_true,if_false,Bool.false_eq_true]
  go_enter Tryz.func173,Tryz.ntmps173
  go_wp2_with (first|(go_at_call 19;refine HG.out.mono ?_;rintro e w1 ⟨rfl,hB1⟩;have hk:=z0b hN.out hB1 (by simp);have n0:=cell_of hk 0;have n1:=cell_of hk 1;have n2:=cell_of hk 2;clear hk)|(go_at_call 179;refine (HA.out _).mono ?_;rintro e w3 ⟨rfl,hB3⟩))
  go_ret
  refine⟨rfl,?_⟩
  have hb1:=z0d hb0.out hB1 (by simp)
  first|exact hb1|exact z0d hb1 hB3 hb1.size
end Go.Proofs.YtgdmfledhhoedaaGreatDoor.T
namespace Go.Burg
open Go Go.RowKit
structure Gt where
 x:Nat
 tn:Int
 gn:Int
 rt:Int
 d:Int
 p:Option Nat
 tk:Int
 l0:Int
 l1:Int
end Go.Burg
namespace Go.Proofs.YtgdmfledhhoedaaGreatDoor.T
set_option maxRecDepth 8000
open Go.ChangeShapes Go.WideShapes Go.ChangeAt Go.RowKit Go.Burg
open Go.Burg.Purse (St Inv)
def GBlk (g:Gt):Obj:=.cells #[.pointer (some ⟨g.x,0,none⟩),.int .i64 g.tn,.int .u32 g.gn,.int .u8 g.rt,.int .i64 g.d,.pointer (g.p.map fun b=>⟨b,0,none⟩),.int .i64 g.tk,.int .u64 g.l0,.int .u64 g.l1] 130 (0,0)
variable {w w1:World}
theorem gfacts {b:Nat} {g:Gt} (h:w.heap[b]?=some (GBlk g)) :
 w.cell? ⟨b,0,none⟩=some (.pointer (some ⟨g.x,0,none⟩))/\w.cell? ⟨b,1,none⟩=some (.int .i64 g.tn)/\w.cell? ⟨b,2,none⟩=some (.int .u32 g.gn)/\w.cell? ⟨b,3,none⟩=some (.int .u8 g.rt)/\w.cell? ⟨b,4,none⟩=some (.int .i64 g.d)/\w.cell? ⟨b,5,none⟩=some (.pointer (g.p.map fun b=>⟨b,0,none⟩))/\w.cell? ⟨b,6,none⟩=some (.int .i64 g.tk)/\w.cell? ⟨b,7,none⟩=some (.int .u64 g.l0)/\w.cell? ⟨b,8,none⟩=some (.int .u64 g.l1)/\(∀ j,w.frozen? ⟨b,j,none⟩=false):=by
 have hc:=cell_of h
 exact⟨hc 0,hc 1,hc 2,hc 3,hc 4,hc 5,hc 6,hc 7,hc 8,z0e h⟩
theorem gput {b:Nat} {g:Gt} (h:w.heap[b]?=some (GBlk g)) (p:Option Nat):(w.setCell ⟨b,5,none⟩ (.pointer (p.map fun b=>⟨b,0,none⟩))).heap[b]?=some (GBlk { g with p:=p }):=z0y h rfl
def GOwn (gb pb pm:Nat) (i:Nat):Prop:=i=gb\/i=pb\/i=pm
variable {gb pb pm t:Nat}
theorem gRefund_no {g:Gt} (w:World) (h:w.heap[gb]?=some (GBlk g)) (hp:g.p=none):Calls Tryz.prog 170 #[.pointer (some ⟨gb,0,none⟩)] w fun e w'=>e=.returned (.tuple #[])/\w=w':=by
 obtain⟨x,tn,gn,rt,d,p,tk,l0,l1⟩:=g
 simp only at hp
 subst hp
 obtain⟨c0,c1,c2,c3,c4,c5,c6,c7,c8,cf⟩:=gfacts h
 simp only[Option.map_none] at c5
 go_enter Tryz.func170,Tryz.ntmps170
 go_wp2
 go_end0
 exact⟨rfl,rfl⟩
theorem gRefund_yes {g:Gt} {s:St} (w:World) (h:w.heap[gb]?=some (GBlk g)) (hp:g.p=some pb) (hP:z0i w pb pm s) (hI:Inv s) (n1:gb≠pb) (n2:gb≠pm) :
 Calls Tryz.prog 170 #[.pointer (some ⟨gb,0,none⟩)] w fun e w'=>e=.returned (.tuple #[])/\w'.heap[gb]?=some (GBlk { g with p:=none })/\z0i w' pb pm (s.ref g.tk).2/\Mod (GOwn gb pb pm) w w':=by
 obtain⟨x,tn,gn,rt,d,p,tk,l0,l1⟩:=g
 simp only at hp
 subst hp
 have HG:=hid h
 have HI:=hid hI
 have hgl:=lt_of_block h
 have hno:¬ Own pb pm gb:=fun e=>e.elim n1 n2
 obtain⟨c0,c1,c2,c3,c4,c5,c6,c7,c8,cf⟩:=gfacts h
 simp only[Option.map_some] at c0 c1 c2 c3 c4 c5 c6 c7 c8
 clear h hI
 go_enter Tryz.func170,Tryz.ntmps170
 go_wp2_with fail
 clear c0 c1 c2 c3 c4 c5 c6 c7 c8 cf
 refine z0f (8+1) (Turn 8 (fun w1=>Mod (Own pb pm) w w1/\z0i w1 pb pm s) (fun w1=>Mod (Own pb pm) w w1/\z0i w1 pb pm (s.ref tk).2)) (by kernel_rfl) (by kernel_rfl) (by kernel_rfl) (Turn.start ⟨(Mod.refl (Own pb pm) w).drew,hP⟩) ?_
 dsimp only[List.take]
 iterate 8
  refine Seq.calm (a':=?_) (by decide) ?_ ?_ ?_
  rotate_left
  ·intro w1 hw1
   have hM:Mod (Own pb pm) w w1:=hw1.elim (·.1) (·.1)
   obtain⟨c0,c1,c2,c3,c4,c5,c6,c7,c8,cf⟩:=gfacts ((hM.block gb hgl hno).trans HG.out)
   simp only[Option.map_some] at c0 c1 c2 c3 c4 c5 c6 c7 c8
   clear hM hw1
   go_wp2_with (fail)
   refine⟨?_,id,id⟩;exact rfl
  ·kernel_rfl
 refine Seq.turn (a':=?_) ?_ ?_ ?_
 rotate_left
 ·intro w1 hw1
  have HM:=hid hw1.1
  have HP:=hid hw1.2
  clear hw1
  go_wp2_with (go_at_call 176;refine (refund_at HP.out HI.out tk).mono ?_;rintro e w2 ⟨rfl,hP,hX⟩)
  refine⟨?_,HM.out.trans hX (fun _ _ h=>h),hP⟩
  exact rfl
 ·kernel_rfl
 iterate 0
  refine Seq.calm (a':=?_) (by decide) ?_ ?_ ?_
  rotate_left
  ·intro w1 hw1
   have hM:Mod (Own pb pm) w w1:=hw1.elim (·.1) (·.1)
   obtain⟨c0,c1,c2,c3,c4,c5,c6,c7,c8,cf⟩:=gfacts ((hM.block gb hgl hno).trans HG.out)
   simp only[Option.map_some] at c0 c1 c2 c3 c4 c5 c6 c7 c8
   clear hM hw1
   go_wp2_with (fail)
   refine⟨?_,id,id⟩;exact rfl
  ·kernel_rfl
 refine SeqI.nil ?_
 intro D w1 hD hI
 replace hI:=hI.done (hD 8 (by omega))
 clear hD
 dsimp only[List.drop]
 clear hP
 obtain⟨hM1,hP1⟩:=hI
 have hg1:=(hM1.block gb hgl hno).trans HG.out
 have HM:=hid hM1
 have HP:=hid hP1
 obtain⟨c0,c1,c2,c3,c4,c5,c6,c7,c8,cf⟩:=gfacts hg1
 simp only[Option.map_some] at c0 c1 c2 c3 c4 c5 c6 c7 c8
 clear hM1 hP1
 have HG1:=hid hg1
 clear hg1
 go_wp2
 go_end0
 exact⟨rfl,gput HG1.out none,HP.out.setCell (Ne.symm n1) (Ne.symm n2) _,Mod.setCell (S:=GOwn gb pb pm) (p:=⟨gb,5,none⟩) (HM.out.mono fun _ _ h=>.inr h) (.inl (.inl rfl)) _⟩
theorem gCommit_no {g:Gt} (w:World) (h:w.heap[gb]?=some (GBlk g)) (hp:g.p=none):Calls Tryz.prog 169 #[.pointer (some ⟨gb,0,none⟩)] w fun e w'=>e=.returned (.tuple #[])/\w=w':=by
 obtain⟨x,tn,gn,rt,d,p,tk,l0,l1⟩:=g
 simp only at hp
 subst hp
 obtain⟨c0,c1,c2,c3,c4,c5,c6,c7,c8,cf⟩:=gfacts h
 simp only[Option.map_none] at c5
 go_enter Tryz.func169,Tryz.ntmps169
 go_wp2
 go_end0
 exact⟨rfl,rfl⟩
def comPay (s:St) (tk l0 l1:Int):St:=((s.com tk).2.pay l0 l1).2
theorem gCommit_yes {g:Gt} {s:St} (w:World) (h:w.heap[gb]?=some (GBlk g)) (hp:g.p=some pb) (hP:z0i w pb pm s) (hI:Inv s) (n1:gb≠pb) (n2:gb≠pm) (hl0:0<=g.l0) (hl1:0<=g.l1) :
 Calls Tryz.prog 169 #[.pointer (some ⟨gb,0,none⟩)] w fun e w'=>e=.returned (.tuple #[])/\w'.heap[gb]?=some (GBlk { g with p:=none })/\z0i w' pb pm (comPay s g.tk g.l0 g.l1)/\Mod (GOwn gb pb pm) w w':=by
 obtain⟨x,tn,gn,rt,d,p,tk,l0,l1⟩:=g
 simp only at hp hl0 hl1
 subst hp
 have HG:=hid h
 have HI:=hid hI
 have HL:=hid (And.intro hl0 hl1)
 have hgl:=lt_of_block h
 have hno:¬ Own pb pm gb:=fun e=>e.elim n1 n2
 obtain⟨c0,c1,c2,c3,c4,c5,c6,c7,c8,cf⟩:=gfacts h
 simp only[Option.map_some] at c0 c1 c2 c3 c4 c5 c6 c7 c8
 clear h hI hl0 hl1
 go_enter Tryz.func169,Tryz.ntmps169
 go_wp2_with fail
 clear c0 c1 c2 c3 c4 c5 c6 c7 c8 cf
 refine z0f (8+1) (Turn 8 (fun w1=>Mod (Own pb pm) w w1/\z0i w1 pb pm s) (fun w1=>Mod (Own pb pm) w w1/\z0i w1 pb pm (s.com tk).2)) (by kernel_rfl) (by kernel_rfl) (by kernel_rfl) (Turn.start ⟨(Mod.refl (Own pb pm) w).drew,hP⟩) ?_
 dsimp only[List.take]
 iterate 8
  refine Seq.calm (a':=?_) (by decide) ?_ ?_ ?_
  rotate_left
  ·intro w1 hw1
   have hM:Mod (Own pb pm) w w1:=hw1.elim (·.1) (·.1)
   obtain⟨c0,c1,c2,c3,c4,c5,c6,c7,c8,cf⟩:=gfacts ((hM.block gb hgl hno).trans HG.out)
   simp only[Option.map_some] at c0 c1 c2 c3 c4 c5 c6 c7 c8
   clear hM hw1
   go_wp2_with (fail)
   refine⟨?_,id,id⟩;exact rfl
  ·kernel_rfl
 refine Seq.turn (a':=?_) ?_ ?_ ?_
 rotate_left
 ·intro w1 hw1
  have HM:=hid hw1.1
  have HP:=hid hw1.2
  clear hw1
  go_wp2_with (go_at_call 153;refine (commit_at HP.out HI.out tk).mono ?_;rintro e w2 ⟨rfl,hP,hX⟩)
  refine⟨?_,HM.out.trans hX (fun _ _ h=>h),hP⟩
  exact rfl
 ·kernel_rfl
 iterate 0
  refine Seq.calm (a':=?_) (by decide) ?_ ?_ ?_
  rotate_left
  ·intro w1 hw1
   have hM:Mod (Own pb pm) w w1:=hw1.elim (·.1) (·.1)
   obtain⟨c0,c1,c2,c3,c4,c5,c6,c7,c8,cf⟩:=gfacts ((hM.block gb hgl hno).trans HG.out)
   simp only[Option.map_some] at c0 c1 c2 c3 c4 c5 c6 c7 c8
   clear hM hw1
   go_wp2_with (fail)
   refine⟨?_,id,id⟩;exact rfl
  ·kernel_rfl
 refine SeqI.nil ?_
 intro D w1 hD hI
 replace hI:=hI.done (hD 8 (by omega))
 clear hD
 dsimp only[List.drop]
 have HJ:=hid hI
 clear hI hP
 go_wp2_with fail
 refine z0f (14+1) (Turn 14 (fun w1=>Mod (Own pb pm) w w1/\z0i w1 pb pm (s.com tk).2) (fun w1=>Mod (Own pb pm) w w1/\z0i w1 pb pm (comPay s tk l0 l1))) (by kernel_rfl) (by kernel_rfl) (by kernel_rfl) (Turn.start ⟨HJ.out.1.drew,HJ.out.2⟩) ?_
 dsimp only[List.take]
 iterate 14
  refine Seq.calm (a':=?_) (by decide) ?_ ?_ ?_
  rotate_left
  ·intro w1 hw1
   have hM:Mod (Own pb pm) w w1:=hw1.elim (·.1) (·.1)
   obtain⟨c0,c1,c2,c3,c4,c5,c6,c7,c8,cf⟩:=gfacts ((hM.block gb hgl hno).trans HG.out)
   simp only[Option.map_some] at c0 c1 c2 c3 c4 c5 c6 c7 c8
   clear hM hw1
   go_wp2_with (fail)
   refine⟨?_,id,id⟩;exact rfl
  ·kernel_rfl
 refine Seq.turn (a':=?_) ?_ ?_ ?_
 rotate_left
 ·intro w1 hw1
  have HM:=hid hw1.1
  have HP:=hid hw1.2
  clear hw1
  go_wp2_with (go_at_call 172;refine (pay_at HP.out (HI.out.com tk) l0 l1 HL.out.1 HL.out.2).mono ?_;rintro e w2 ⟨rfl,hP,hX⟩)
  refine⟨?_,HM.out.trans hX (fun _ _ h=>h),hP⟩
  exact rfl
 ·kernel_rfl
 iterate 0
  refine Seq.calm (a':=?_) (by decide) ?_ ?_ ?_
  rotate_left
  ·intro w1 hw1
   have hM:Mod (Own pb pm) w w1:=hw1.elim (·.1) (·.1)
   obtain⟨c0,c1,c2,c3,c4,c5,c6,c7,c8,cf⟩:=gfacts ((hM.block gb hgl hno).trans HG.out)
   simp only[Option.map_some] at c0 c1 c2 c3 c4 c5 c6 c7 c8
   clear hM hw1
   go_wp2_with (fail)
   refine⟨?_,id,id⟩;exact rfl
  ·kernel_rfl
 refine SeqI.nil ?_
 intro D w1 hD hI
 replace hI:=hI.done (hD 14 (by omega))
 clear hD
 dsimp only[List.drop]
 obtain⟨hM1,hP1⟩:=hI
 have hg1:=(hM1.block gb hgl hno).trans HG.out
 have HM:=hid hM1
 have HP:=hid hP1
 obtain⟨c0,c1,c2,c3,c4,c5,c6,c7,c8,cf⟩:=gfacts hg1
 simp only[Option.map_some] at c0 c1 c2 c3 c4 c5 c6 c7 c8
 clear hM1 hP1
 have HG1:=hid hg1
 clear hg1
 go_wp2
 go_end0
 exact⟨rfl,gput HG1.out none,HP.out.setCell (Ne.symm n1) (Ne.symm n2) _,Mod.setCell (S:=GOwn gb pb pm) (p:=⟨gb,5,none⟩) (HM.out.mono fun _ _ h=>.inr h) (.inl (.inl rfl)) _⟩
open Go.Burg.Purse (St Inv)
def z2c (s:St) (g:Gt):St:=if g.p.isSome then (s.ref g.tk).2 else s
theorem closeSt_inv {s:St} {g:Gt} (h:Inv s):Inv (z2c s g):=by
 unfold z2c
 split
 ·exact h.ref _
 ·exact h
theorem closeSt_last {s:St} {g:Gt}:(z2c s g).last=s.last:=by
 unfold z2c St.ref
 split
 ·split<;>rfl
 ·rfl
theorem gRefund_at {g:Gt} {s:St} (w:World) (h:w.heap[gb]?=some (GBlk g)) (hp:g.p=none\/g.p=some pb) (hP:z0i w pb pm s) (hI:Inv s) (n1:gb≠pb) (n2:gb≠pm) :
 Calls Tryz.prog 170 #[.pointer (some ⟨gb,0,none⟩)] w fun e w'=>e=.returned (.tuple #[])/\w'.heap[gb]?=some (GBlk { g with p:=none })/\z0i w' pb pm (z2c s g)/\Mod (GOwn gb pb pm) w w':=by
 rcases hp with hp|hp
 ·refine (gRefund_no w h hp).mono ?_
  rintro e w' ⟨rfl,rfl⟩
  have e1:z2c s g=s:=by simp[z2c,hp]
  have e2:({ g with p:=none }:Gt)=g:=by cases g;simp only at hp;subst hp;rfl
  rw[e1,e2]
  exact⟨rfl,h,hP,Mod.refl _ _⟩
 ·refine (gRefund_yes w h hp hP hI n1 n2).mono ?_
  rintro e w' ⟨rfl,h1,h2,h3⟩
  have e1:z2c s g=(s.ref g.tk).2:=by simp[z2c,hp]
  rw[e1]
  exact⟨rfl,h1,h2,h3⟩
def midg (g:Gt) (pb:Nat) (n a b:Int) (b1 b2 b3:Bool):Gt:={ g with p:=cond b1 (some pb) none,tk:=cond b2 n g.tk,l0:=cond b3 a g.l0,l1:=cond b3 b g.l1 }
def MidAt (w:World) (gb:Nat) (g:Gt) (pb:Nat) (n a b:Int) (b1 b2 b3:Bool) (w1:World):Prop:=Mod (·=gb) w w1/\w1.heap[gb]?=some (GBlk (midg g pb n a b b1 b2 b3))
variable {b1 b2 b3:Bool} {a b n:Int}
theorem MidAt.one {g:Gt} (h:MidAt w gb g pb n a b false b2 b3 w1):MidAt w gb g pb n a b true b2 b3 (w1.setCell ⟨gb,5,none⟩ (.pointer (some ⟨pb,0,none⟩))) :=
 ⟨Mod.setCell (S:=(·=gb)) (p:=⟨gb,5,none⟩) h.1 (.inl rfl) _,z0y h.2 rfl⟩
theorem MidAt.two {g:Gt} (h:MidAt w gb g pb n a b b1 false b3 w1):MidAt w gb g pb n a b b1 true b3 (w1.setCell ⟨gb,6,none⟩ (.int .i64 n)) :=
 ⟨Mod.setCell (S:=(·=gb)) (p:=⟨gb,6,none⟩) h.1 (.inl rfl) _,z0y h.2 rfl⟩
theorem MidAt.three {g:Gt} (h:MidAt w gb g pb n a b b1 b2 false w1):MidAt w gb g pb n a b b1 b2 true ((w1.setCell ⟨gb,7,none⟩ (.int .u64 a)).setCell ⟨gb,8,none⟩ (.int .u64 b)) :=
 ⟨Mod.setCell (S:=(·=gb)) (p:=⟨gb,8,none⟩) (Mod.setCell (S:=(·=gb)) (p:=⟨gb,7,none⟩) h.1 (.inl rfl) _) (.inl rfl) _,z0y (z0y (cs':=#[.pointer (some ⟨g.x,0,none⟩),.int .i64 g.tn,.int .u32 g.gn,.int .u8 g.rt,.int .i64 g.d,.pointer ((cond b1 (some pb) none).map fun b=>⟨b,0,none⟩),.int .i64 (cond b2 n g.tk),.int .u64 a,.int .u64 g.l1]) h.2 rfl) rfl⟩
def resG (g:Gt) (pb:Nat) (k y:Int) (r:Int × Int × St):Gt:=if r.2.1=0 then { g with p:=some pb,tk:=r.1,l0:=max (-k) 0,l1:=max (-y) 0 } else { g with p:=none }
variable {l:Nat->Ten}
set_option maxHeartbeats 4000000 in
theorem gReserve_ok {n:Nat} {g:Gt} {s:St} (k y:Int) (w:World) (h:w.heap[gb]?=some (GBlk g)) (hT:TabAt 87 w g.x t l) (hgp:g.p=none\/g.p=some pb) (hP:z0i w pb pm s) (hI:Inv s) (n1:gb≠pb) (n2:gb≠pm) (nx:¬ GOwn gb pb pm g.x)
 (htn:mayI l g.tn g.gn g.rt g.d=0) (hn:g.tn=n) (hn1:n<=16) (hlp:(l n).purse=some pb) (hls:s.last<4000000000) (hk:-9223372036854775808<=k/\k<=9223372036854775807) (hy:-9223372036854775808<=y/\y<=9223372036854775807) :
 Calls Tryz.prog 171 #[.pointer (some ⟨gb,0,none⟩),.agg #[.int .i64 k,.int .i64 y]] w fun e w'=>e=.returned (.int .i64 ((z2c s g).res (max k 0) (max y 0)).2.1)/\w'.heap[gb]?=some (GBlk (resG g pb k y ((z2c s g).res (max k 0) (max y 0))))/\z0i w' pb pm ((z2c s g).res (max k 0) (max y 0)).2.2/\Mod (GOwn gb pb pm) w w':=by
 have HLS:Hid ((z2c s g).last<4000000000):=hid (by rw[closeSt_last];exact hls)
 have hgx:g.x≠gb:=fun e=>nx (.inl e)
 have hgl:=lt_of_block h
 have hpl:=hP.lt
 have hxl:=hT.lt
 have hR:=gRefund_at _ (z0c (o':=(.cells #[.int .i64 k,.int .i64 y] 60)) h) hgp (hP.alloc (.cells #[.int .i64 k,.int .i64 y] 60)) hI n1 n2
 have HT:=hid (hT.alloc (.cells #[.int .i64 k,.int .i64 y] 60))
 have HN:=hid (z0a w (.cells #[.int .i64 k,.int .i64 y] 60))
 have HR:=hid hR
 have HI:=hid (closeSt_inv (g:=g) hI)
 obtain⟨gx,tn,gn,rt,d,gp,tk,l0,l1⟩:=g
 simp only at nx htn HT hgp hxl
 clear hR h hT hP hI hgp
 have HX:=hid nx
 clear nx
 go_enter Tryz.func171,Tryz.ntmps171
 go_wp2_with (go_at_call 170;refine HR.out.mono ?_;rintro e wa ⟨rfl,hG,hP,hM⟩)
 have hw0:Below w.heap.size w (w.alloc (.cells #[.int .i64 k,.int .i64 y] 60)):=(Below.refl _ _).alloc (Nat.le_refl _) _
 have HM0:Hid (Mod (GOwn gb pb pm) w wa):=hid ((Mod.z0j hw0).trans hM (fun _ _ h=>h))
 have HTa:=hid (HT.out.mod hM HX.out)
 have HNa:=hid ((hM.block w.heap.size (by simp) (fun e=>by rcases e with e|e|e<;>omega)).trans HN.out)
 have HGa:=hid hG
 have HPa:=hid hP
 clear hM hG hP hw0 HT HN HR
 have HY:=hid (fun (w1:World) (hw1:Below wa.heap.size wa w1)=>May_at tn gn rt d w1 (HTa.out.keep hw1))
 rw[htn] at HY
 clear htn hls
 subst hn
 go_wp2_with fail
 refine z0g 14 (fun w1=>Below (wa).heap.size (wa) w1) (by kernel_rfl) (by kernel_rfl) (by kernel_rfl) ⟨rfl,rfl,rfl,Nat.le_refl _,fun _ _=>rfl⟩ ?_
 dsimp only[List.take]
 iterate 14
  refine Seq.cons (a':=?_) ?_ ?_ ?_
  rotate_left
  ·intro w1 hw1
   have hG1:=z0b HGa.out hw1 (lt_of_block HGa.out)
   obtain⟨c0,c1,c2,c3,c4,c5,c6,c7,c8,cf⟩:=gfacts hG1
   simp only[Option.map_none] at c0 c1 c2 c3 c4 c5 c6 c7 c8
   clear hG1
   go_wp2_with (go_at_call 173;refine (HY.out _ hw1).mono ?_;rintro e w' ⟨rfl,hb⟩)
   refine⟨?_,by first|assumption|(simpa using z0d hw1 hb hw1.size)⟩
   exact rfl
  ·kernel_rfl
 refine SeqI.nil ?_
 intro _ w1 _ hw1
 dsimp only[List.drop]
 have HGb:=hid (z0b HGa.out hw1 (lt_of_block HGa.out))
 have HNb:=hid (z0b HNa.out hw1 (lt_of_block HNa.out))
 have HPb:=hid (HPa.out.keep hw1)
 have HTb:=hid (HTa.out.keep hw1)
 have HMb:=hid (HM0.out.trans (Mod.z0j hw1) (fun _ _ h=>h))
 obtain⟨wb,rfl⟩:∃ x,x=w1:=⟨_,rfl⟩
 clear hw1 HGa HNa HPa HTa HM0 HY
 go_wp2_with fail
 have HCL:=hid (show n<17 by omega)
 refine z0g 15 (fun w1=>Below (wb).heap.size (wb) w1) (by kernel_rfl) (by kernel_rfl) (by kernel_rfl) ⟨rfl,rfl,rfl,Nat.le_refl _,fun _ _=>rfl⟩ ?_
 dsimp only[List.take]
 iterate 15
  refine Seq.cons (a':=?_) ?_ ?_ ?_
  rotate_left
  ·intro w1 hw1
   have hG1:=z0b HGb.out hw1 (lt_of_block HGb.out)
   obtain⟨c0,c1,c2,c3,c4,c5,c6,c7,c8,cf⟩:=gfacts hG1
   simp only[Option.map_none] at c0 c1 c2 c3 c4 c5 c6 c7 c8
   clear hG1
   obtain⟨_,_,_,t3⟩:=(HTb.out.keep hw1).cell HCL.out
   rw[hlp] at t3
   simp only[Option.map_some] at t3
   go_wp2_with (fail)
   refine⟨?_,by first|assumption|(simpa using z0d hw1 hb hw1.size)⟩
   exact rfl
  ·kernel_rfl
 refine SeqI.nil ?_
 intro _ w1 _ hw1
 dsimp only[List.drop]
 have HGc:=hid (z0b HGb.out hw1 (lt_of_block HGb.out))
 have HNc:=hid (z0b HNb.out hw1 (lt_of_block HNb.out))
 have HPc:=hid (HPb.out.keep hw1)
 have HMc:=hid (HMb.out.trans (Mod.z0j hw1) (fun _ _ h=>h))
 obtain⟨wc,rfl⟩:∃ x,x=w1:=⟨_,rfl⟩
 clear hw1 HGb HNb HPb HTb HMb
 go_wp2_with fail
 have hnn:¬ Own pb pm w.heap.size:=fun e=>by rcases e with e|e<;>omega
 have hngb:¬ Own pb pm gb:=fun e=>e.elim n1 n2
 have HS:Hid (z0i wc.drew pb pm (z2c s ⟨gx,n,gn,rt,d,gp,tk,l0,l1⟩)):=hid (HPc.out.mod (Mod.refl (fun _=>False) wc).drew (fun h=>h) (fun h=>h))
 have HKY:=hid (And.intro hk hy)
 have hm0:0<=max k 0:=by omega
 have hm1:0<=max y 0:=by omega
 clear hk hy hgx hlp
 generalize hs1:z2c s ⟨gx,n,gn,rt,d,gp,tk,l0,l1⟩=s1 at *
 have HS1:=hid hs1
 clear hs1
 refine z0f 13 (Turn 7 (fun w1=>Mod (Own pb pm) wc w1/\z0i w1 pb pm s1) (fun w1=>Mod (Own pb pm) wc w1/\z0i w1 pb pm (s1.res (max k 0) (max y 0)).2.2)) (by kernel_rfl) (by kernel_rfl) (by kernel_rfl) (Turn.start ⟨(Mod.refl (Own pb pm) wc).drew,HS.out⟩) ?_
 dsimp only[List.take]
 iterate 7
  refine Seq.calm (a':=?_) (by decide) ?_ ?_ ?_
  rotate_left
  ·intro w1 hw1
   have hM:Mod (Own pb pm) wc w1:=hw1.elim (·.1) (·.1)
   have hN1:=(hM.block w.heap.size (lt_of_block HNc.out) hnn).trans HNc.out
   have m0:=cell_of hN1 0
   have m1:=cell_of hN1 1
   clear hN1 hM hw1
   go_wp2_with (go_at_call 174;first|(refine (up_any k _ HKY.out.1.1 HKY.out.1.2).mono ?_;rintro e w2 ⟨rfl,rfl⟩)|(refine (up_any y _ HKY.out.2.1 HKY.out.2.2).mono ?_;rintro e w2 ⟨rfl,rfl⟩))
   refine⟨?_,id,id⟩;exact rfl
  ·kernel_rfl
 refine Seq.turn (a':=?_) ?_ ?_ ?_
 rotate_left
 ·intro w1 hw1
  have HM:=hid hw1.1
  have HP:=hid hw1.2
  clear hw1
  go_wp2_with (go_at_call 155;refine (reserve_at HP.out HI.out HLS.out _ _ hm0 hm1).mono ?_;rintro e w2 ⟨rfl,hP,hX⟩)
  refine⟨?_,HM.out.trans hX (fun _ _ h=>h),hP⟩
  exact rfl
 ·kernel_rfl
 iterate 5
  refine Seq.calm (a':=?_) (by decide) ?_ ?_ ?_
  rotate_left
  ·intro w1 hw1
   have hM:Mod (Own pb pm) wc w1:=hw1.elim (·.1) (·.1)
   have hN1:=(hM.block w.heap.size (lt_of_block HNc.out) hnn).trans HNc.out
   have m0:=cell_of hN1 0
   have m1:=cell_of hN1 1
   clear hN1 hM hw1
   go_wp2_with (go_at_call 174;first|(refine (up_any k _ HKY.out.1.1 HKY.out.1.2).mono ?_;rintro e w2 ⟨rfl,rfl⟩)|(refine (up_any y _ HKY.out.2.1 HKY.out.2.2).mono ?_;rintro e w2 ⟨rfl,rfl⟩))
   refine⟨?_,id,id⟩;exact rfl
  ·kernel_rfl
 refine SeqI.nil ?_
 intro D w1 hD hI
 replace hI:=hI.done (hD 7 (by omega))
 clear hD
 dsimp only[List.drop]
 obtain⟨wd,rfl⟩:∃ x,x=w1:=⟨_,rfl⟩
 have hcase:(s1.res (max k 0) (max y 0)).2.1=0\/(s1.res (max k 0) (max y 0)).2.1=10:=by
  unfold St.res
  split
  ·exact .inl rfl
  ·exact .inr rfl
 have HGd:=hid ((hI.1.block gb (lt_of_block HGc.out) hngb).trans HGc.out)
 have HNd:=hid ((hI.1.block w.heap.size (lt_of_block HNc.out) hnn).trans HNc.out)
 have HMd:=hid (HMc.out.trans hI.1 (fun _ _ h=>.inr h))
 have HPd:=hid hI.2
 clear hI HGc HNc HPc HMc HS
 generalize hr:s1.res (max k 0) (max y 0)=r at *
 have HR1:=hid hr
 clear hr
 obtain⟨nt,er,s2⟩:=r
 simp only at hcase HPd
 rcases hcase with rfl|rfl
 ·go_wp2_with fail
  have hne:w.heap.size≠gb:=by omega
  have HS0:Hid (MidAt wd gb ⟨gx,n,gn,rt,d,none,tk,l0,l1⟩ pb nt (max (-k) 0) (max (-y) 0) false false false wd.drew):=hid ⟨(Mod.refl _ _).drew,HGd.out⟩
  refine wp_region_seqC 21 (Turn4 14 17 20 99 (fun b1 b2 b3 _ w2=>MidAt wd gb ⟨gx,n,gn,rt,d,none,tk,l0,l1⟩ pb nt (max (-k) 0) (max (-y) 0) b1 b2 b3 w2)) (by kernel_rfl) (by kernel_rfl) (by kernel_rfl) (Turn4.start HS0.out) ?_
  dsimp only[List.take]
  iterate 14
   refine Seq4.calm (a':=?_) (by decide) (by decide) (by decide) (by decide) ?_ ?_ ?_
   rotate_left
   ·intro b1 b2 b3 b4 w1 e1 f1 e2 f2 e3 f3 e4 f4 hw1
    have HW1:=hid hw1
    have hN1:=(hw1.1.block w.heap.size (lt_of_block HNd.out) hne).trans HNd.out
    have m0:=cell_of hN1 0
    have m1:=cell_of hN1 1
    clear hw1 hN1 e1 f1 e2 f2 e3 f3 e4 f4
    go_wp2_with (go_at_call 175;first|(refine (down_any k _ HKY.out.1.1 HKY.out.1.2).mono ?_;rintro e w2 ⟨rfl,rfl⟩)|(refine (down_any y _ HKY.out.2.1 HKY.out.2.2).mono ?_;rintro e w2 ⟨rfl,rfl⟩))
    refine⟨?_,HW1.out⟩
    exact rfl
   ·kernel_rfl
  refine Seq4.at1 (a':=?_) (by decide) (by decide) (by decide) ?_ ?_ ?_
  rotate_left
  ·intro b2 b3 b4 w1 e2 f2 e3 f3 e4 f4 hw1
   have HW1:=hid hw1.one
   obtain⟨c0,c1,c2,c3,c4,c5,c6,c7,c8,cf⟩:=gfacts hw1.2
   clear hw1 e2 f2 e3 f3 e4 f4
   go_wp2_with fail
   refine⟨?_,HW1.out⟩
   exact rfl
  ·kernel_rfl
  iterate 2
   refine Seq4.calm (a':=?_) (by decide) (by decide) (by decide) (by decide) ?_ ?_ ?_
   rotate_left
   ·intro b1 b2 b3 b4 w1 e1 f1 e2 f2 e3 f3 e4 f4 hw1
    have HW1:=hid hw1
    have hN1:=(hw1.1.block w.heap.size (lt_of_block HNd.out) hne).trans HNd.out
    have m0:=cell_of hN1 0
    have m1:=cell_of hN1 1
    clear hw1 hN1 e1 f1 e2 f2 e3 f3 e4 f4
    go_wp2_with (go_at_call 175;first|(refine (down_any k _ HKY.out.1.1 HKY.out.1.2).mono ?_;rintro e w2 ⟨rfl,rfl⟩)|(refine (down_any y _ HKY.out.2.1 HKY.out.2.2).mono ?_;rintro e w2 ⟨rfl,rfl⟩))
    refine⟨?_,HW1.out⟩
    exact rfl
   ·kernel_rfl
  refine Seq4.at2 (a':=?_) (by decide) (by decide) (by decide) ?_ ?_ ?_
  rotate_left
  ·intro b1 b3 b4 w1 e1 f1 e3 f3 e4 f4 hw1
   have HW1:=hid hw1.two
   obtain⟨c0,c1,c2,c3,c4,c5,c6,c7,c8,cf⟩:=gfacts hw1.2
   clear hw1 e1 f1 e3 f3 e4 f4
   go_wp2_with fail
   refine⟨?_,HW1.out⟩
   exact rfl
  ·kernel_rfl
  iterate 2
   refine Seq4.calm (a':=?_) (by decide) (by decide) (by decide) (by decide) ?_ ?_ ?_
   rotate_left
   ·intro b1 b2 b3 b4 w1 e1 f1 e2 f2 e3 f3 e4 f4 hw1
    have HW1:=hid hw1
    have hN1:=(hw1.1.block w.heap.size (lt_of_block HNd.out) hne).trans HNd.out
    have m0:=cell_of hN1 0
    have m1:=cell_of hN1 1
    clear hw1 hN1 e1 f1 e2 f2 e3 f3 e4 f4
    go_wp2_with (go_at_call 175;first|(refine (down_any k _ HKY.out.1.1 HKY.out.1.2).mono ?_;rintro e w2 ⟨rfl,rfl⟩)|(refine (down_any y _ HKY.out.2.1 HKY.out.2.2).mono ?_;rintro e w2 ⟨rfl,rfl⟩))
    refine⟨?_,HW1.out⟩
    exact rfl
   ·kernel_rfl
  refine Seq4.at3 (a':=?_) (by decide) (by decide) (by decide) ?_ ?_ ?_
  rotate_left
  ·intro b1 b2 b4 w1 e1 f1 e2 f2 e4 f4 hw1
   have HW1:=hid hw1.three
   obtain⟨c0,c1,c2,c3,c4,c5,c6,c7,c8,cf⟩:=gfacts hw1.2
   clear hw1 e1 f1 e2 f2 e4 f4
   go_wp2_with fail
   refine⟨?_,HW1.out⟩
   exact rfl
  ·kernel_rfl
  refine SeqC.nil ?_
  intro D w2 hD hI
  obtain⟨_,hI⟩:=hI.done3 (hD 14 (by omega)) (hD 17 (by omega)) (hD 20 (by omega))
  clear hD
  dsimp only[List.drop]
  have hMe:=hI.1
  have HGe:=hid hI.2
  have HPe:=hid (HPd.out.mod hMe (Ne.symm n1) (Ne.symm n2))
  have HMe:=hid (HMd.out.trans hMe (fun _ _ h=>.inl h))
  clear hI hMe HS0 HPd HGd HMd HNd
  go_wp2
  go_ret
  rw[HS1.out,HR1.out]
  exact⟨rfl,HGe.out,HPe.out,HMe.out⟩
 ·go_wp2
  go_ret
  rw[HS1.out,HR1.out]
  exact⟨rfl,HGd.out,HPd.out,HMd.out⟩
open Go.Burg.Purse (St Inv)
theorem Gate_at (x:Nat) (tn gn rt d:Int) (w:World):Calls Tryz.prog 13 #[.pointer (some ⟨x,0,none⟩),.agg #[.int .i64 tn,.int .u32 gn,.int .u8 rt],.int .i64 d] w fun e w'=>∃ b,e=.returned (.iface 127 (.pointer (some ⟨b,0,none⟩)))/\w'.heap[b]?=some (GBlk ⟨x,tn,gn,rt,d,none,0,0,0⟩)/\w.heap.size<=b/\Below w.heap.size w w':=by
 go_enter Tryz.func13,Tryz.ntmps13
 go_wp2
 go_ret
 refine⟨w.heap.size+1,rfl,?_,by omega,by (repeat (first|exact Below.refl _ _|assumption|with_reducible refine Below.drew ?_|with_reducible refine below_drewN ?_|with_reducible refine Below.setCell ?_ (by first|(simp;done)|(simp;omega)) _|with_reducible refine Below.alloc ?_ (by first|exact Nat.le_refl _|(simp;done)|(simp;omega)) _))⟩
 have hk:=z0a (w.alloc (.cells #[.int .i64 tn,.int .u32 gn,.int .u8 rt] 51 (0,0))) (GBlk ⟨x,tn,gn,rt,d,none,0,0,0⟩)
 rw[show (w.alloc (.cells #[.int .i64 tn,.int .u32 gn,.int .u8 rt] 51 (0,0))).heap.size=w.heap.size+1 by simp] at hk
 exact hk
theorem Issue_at {x n p:Nat} (r:Int) (w:World) (h:TabAt 87 w x t l) (h1:1<=n) (h2:n<=16) (hp:(l n).purse=some p) (hr1:1<=r) (hr2:r<=7) :
 Calls Tryz.prog 12 #[.pointer (some ⟨x,0,none⟩),.int .i64 n,.int .u8 r] w fun e w'=>e=.returned (.tuple #[.agg #[.int .i64 n,.int .u32 (l n).gen,.int .u8 r],.int .i64 0])/\Below w.heap.size w w':=by
 have k1:=z0a w (.cells #[.int .i64 n] 3 (0,0))
 have k2:=z0a (w.alloc (.cells #[.int .i64 n] 3 (0,0))) (.cells #[.int .u8 r] 49 (0,0))
 have k3:=z0a ((w.alloc (.cells #[.int .i64 n] 3 (0,0))).alloc (.cells #[.int .u8 r] 49 (0,0))) (.cells #[.int .i64 0,.int .u32 0,.int .u8 0] 51 (0,0))
 rw[show (w.alloc (.cells #[.int .i64 n] 3 (0,0))).heap.size=w.heap.size+1 by simp] at k2
 rw[show ((w.alloc (.cells #[.int .i64 n] 3 (0,0))).alloc (.cells #[.int .u8 r] 49 (0,0))).heap.size=w.heap.size+1+1 by simp] at k3
 have j1:=z0c (o':=(.cells #[.int .i64 0,.int .u32 0,.int .u8 0] 51 (0,0))) (z0c (o':=(.cells #[.int .u8 r] 49 (0,0))) k1)
 have j2:=z0c (o':=(.cells #[.int .i64 0,.int .u32 0,.int .u8 0] 51 (0,0))) k2
 have n0:=cell_of j1 0
 have hA:=((h.alloc (.cells #[.int .i64 n] 3 (0,0))).alloc (.cells #[.int .u8 r] 49 (0,0))).alloc (.cells #[.int .i64 0,.int .u32 0,.int .u8 0] 51 (0,0))
 have HI:=hid (of_issue _ hA h1 h2 hp n r j1 j2 k3)
 have hb0:Hid (Below w.heap.size w (((w.alloc (.cells #[.int .i64 n] 3 (0,0))).alloc (.cells #[.int .u8 r] 49 (0,0))).alloc (.cells #[.int .i64 0,.int .u32 0,.int .u8 0] 51 (0,0)))):=hid ((((Below.refl _ _).alloc (Nat.le_refl _) _).alloc (by simp) _).alloc (by simp;omega) _)
 have HJ2:=hid j2
 have g1:decide (r<1)=false:=by simp;omega
 have g2:decide (r > 7)=false:=by simp;omega
 clear h hA hp k1 k2 k3 j1 j2
 go_enter Tryz.func12,Tryz.ntmps12
 go_wp2_with (go_at_call 23;refine HI.out.mono ?_;rintro e w2 ⟨rfl,hC,hM⟩;have hj:=(hM.block (w.heap.size+1) (lt_of_block HJ2.out) (by omega)).trans HJ2.out;have b0:=cell_of hj 0;have q0:=cell_of hC 0;have q1:=cell_of hC 1;have q2:=cell_of hC 2;have qf:=z0e hC;have HM:=hid hM;have HC:=hid hC;clear hM hj)
 refine bodyPost_ret (v:=.tuple #[.agg #[_,_,_],_]) (by simp[results,Tryz.results12,go_sem,q0,q1,q2]) rfl ⟨rfl,?_⟩
 have hM:=HM.out
 have hB:Below w.heap.size w w2:=hb0.out.trans ⟨hM.os,hM.tape,hM.output,hM.size,fun k hk=>hM.block k (by simp;omega) (by omega)⟩
 (repeat (first|exact Below.refl _ _|assumption|with_reducible refine Below.drew ?_|with_reducible refine below_drewN ?_|with_reducible refine Below.setCell ?_ (by first|(simp;done)|(simp;omega)) _|with_reducible refine Below.alloc ?_ (by first|exact Nat.le_refl _|(simp;done)|(simp;omega)) _))
end Go.Proofs.YtgdmfledhhoedaaGreatDoor.T
namespace Go.Burg
open Go Go.RowKit
theorem TabAt.put1 {tt:TypeId} {w:World} {x t n:Nat} {l:Nat->Ten} (h:TabAt tt w x t l) (hn:n<17) (g:Int) :
 TabAt tt (w.setCell ⟨x,1+n * 4,none⟩ (.int .u32 g)) x t (upd l n { l n with gen:=g }):=by
 obtain⟨cs,h1,h2,h3⟩:=h
 have a3:cs[1+n * 4+3]?=some (.pointer ((l n).purse.map fun b=>⟨b,0,none⟩)):=h3 n hn 3 (by omega)
 have s3:1+n * 4+3<cs.size:=(Array.getElem?_eq_some_iff.1 a3).1
 refine⟨_,heap_set h1,?_,fun i hi j hj=>?_⟩
 ·rw[z2q,if_neg (by omega)]
  exact h2
 ·unfold upd
  by_cases hin:i=n
  ·subst hin
   rw[if_pos rfl]
   have h4:=h3 i hi
   rcases (by omega:j=0\/j=1\/j=2\/j=3) with rfl|rfl|rfl|rfl
   ·rw[z2q,if_pos (by omega),if_pos (by omega)];rfl
   ·rw[z2q,if_neg (by omega),h4 1 (by omega)];rfl
   ·rw[z2q,if_neg (by omega),h4 2 (by omega)];rfl
   ·rw[z2q,if_neg (by omega),h4 3 (by omega)];rfl
  ·rw[if_neg hin,<- h3 i hi j hj,z2q,if_neg (by omega)]
end Go.Burg
namespace Go.Proofs.YtgdmfledhhoedaaGreatDoor.T
set_option maxRecDepth 8000
open Go.ChangeShapes Go.WideShapes Go.ChangeAt Go.RowKit Go.Burg
variable {c n p t x:Nat} {l:Nat->Ten}
theorem revoke1_any (w:World) (h:TabAt 87 w x t l) (h2:n<=16) (hg:0<=(l n).gen/\(l n).gen<4294967295) :
 Calls Tryz.prog 48 #[.pointer (some ⟨x,1+n * 4,none⟩)] w fun e w'=>e=.returned (.tuple #[])/\TabAt 87 w' x t (upd l n { l n with gen:=(l n).gen+1 })/\Mod (·=x) w w':=by
 obtain⟨c0,_,_,_⟩:=h.cell (show n<17 by omega)
 have cf:=h.head.2
 have hwr:IntKind.u32.wrap ((l n).gen+1)=(l n).gen+1:=by
  have:IntKind.u32.wrap ((l n).gen+1)=((l n).gen+1) % 4294967296:=rfl
  rw[this];omega
 have HPUT:=hid (h.put1 (show n<17 by omega) ((l n).gen+1))
 clear h hg
 go_enter Tryz.func48,Tryz.ntmps48
 go_wp2
 go_end0
 exact⟨rfl,HPUT.out,Mod.setCell (S:=(·=x)) (p:=⟨x,1+n * 4,none⟩) (Mod.refl _ _) (.inl rfl) _⟩
theorem revoke_at (w:World) (h:TabAt 87 w x t l) (h1:1<=n) (h2:n<=16) (hp:(l n).purse=some p) (hg:0<=(l n).gen/\(l n).gen<4294967295) :
 Calls Tryz.prog 17 #[.pointer (some ⟨x,0,none⟩),.int .i64 n] w fun e w'=>e=.returned (.int .i64 0)/\TabAt 87 w' x t (upd l n { l n with gen:=(l n).gen+1 })/\Mod (·=x) w w':=by
 have HI:=hid (revoke1_any w h h2 hg)
 have HO:Hid (Calls Tryz.prog 23 #[.pointer (some ⟨x,0,none⟩),.int .i64 n,.func (.func 48) #[] #[]] w fun e w'=>e=.returned (.int .i64 0)/\TabAt 87 w' x t (upd l n { l n with gen:=(l n).gen+1 })/\Mod (·=x) w w'):=hid (by
  have HT:=hid (z1i w h)
  obtain⟨_,cf⟩:=h.head
  obtain⟨c0,c1,c2,c3⟩:=h.cell (show n<17 by omega)
  rw[hp] at c3
  simp only[Option.map_some] at c3
  clear c0 c1 c2 hp
  have g1:decide ((n:Int)<1)=false:=by simp;omega
  have g2:decide ((n:Int) > 16)=false:=by simp;omega
  go_enter Tryz.func23,Tryz.ntmps23
  go_wp2_with (first|(go_at_call 55;refine HT.out.mono ?_;rintro e w2 ⟨rfl,rfl⟩)|(go_at_call 48;refine HI.out.mono ?_;rintro e w2 ⟨rfl,hC,hM⟩))
  go_ret
  exact⟨rfl,hC,hM⟩)
 clear hp hg HI h
 go_enter Tryz.func17,Tryz.ntmps17
 go_wp2_with (go_at_call 23;refine HO.out.mono ?_;rintro e w2 ⟨rfl,hC,hM⟩)
 go_ret
 exact⟨rfl,hC,hM⟩
open Go.Burg.Lk
open Go.Burg.Purse (St Inv)
theorem first0 (hn:0<n):z2s (List.replicate n (⟨false,Nd.zero,0⟩:Cel Nd)) ((0:Nat):Int) :=
 .inl ⟨0,⟨false,Nd.zero,0⟩,rfl,by simp[hn],rfl,fun j hj=>absurd hj (Nat.not_lt_zero _)⟩
def ref01:RefK:=⟨(0,1),by decide⟩
def S1:St:=St.new 2 9
def S2:St:=⟨2,9,0,0,1,9,1,[(1,1,9)]⟩
def S3:St:=⟨2,9,1,9,0,0,1,[]⟩
def S4:St:=⟨2,9,1,9,0,0,2,[(2,0,0)]⟩
def S5:St:=⟨2,9,0,5,0,0,2,[]⟩
theorem i1:Inv S1:=Purse.Inv.new (by omega) (by unfold Purse.big;omega) (by omega) (by unfold Purse.big;omega)
theorem e1:S1.res (max 1 0) (max 10 0)=(0,10,S1):=if_neg (show ¬ ((max 1 0:Int)<=2 - (0+0)/\(max 10 0:Int)<=9 - (0+0)) by omega)
theorem e2:S1.res (max 1 0) (max 9 0)=(1,0,S2):=if_pos (show ((max 1 0:Int)<=2 - (0+0)/\(max 9 0:Int)<=9 - (0+0)) by omega)
theorem i2:Inv S2:=by have:=i1.res (k:=max 1 0) (y:=max 9 0) (by omega) (by omega);rwa [e2] at this
theorem e3:comPay S2 1 0 0=S3:=by
 have h1:(S2.com 1).2=S3:=rfl
 unfold comPay
 rw[h1]
 have h2:S3.pay 0 0=(0,S3):=if_pos (show ((0:Int)<=1/\(0:Int)<=9) by omega)
 rw[h2]
theorem i3:Inv S3:=i2.com 1
theorem e4:S3.res (max (-1) 0) (max (-4) 0)=(2,0,S4):=if_pos (show ((max (-1) 0:Int)<=2 - (1+0)/\(max (-4) 0:Int)<=9 - (9+0)) by omega)
theorem i4:Inv S4:=by have:=i3.res (k:=max (-1) 0) (y:=max (-4) 0) (by omega) (by omega);rwa [e4] at this
theorem e5:comPay S4 2 1 4=S5:=by
 have h1:(S4.com 2).2=⟨2,9,1,9,0,0,2,[]⟩:=rfl
 unfold comPay
 rw[h1]
 exact congrArg Prod.snd (if_pos (show ((1:Int)<=1/\(4:Int)<=9) by omega))
def L1 (p:Nat):Nat->Ten:=upd (fun _=>Ten.zero) 3 ⟨1,0,1,some p⟩
theorem z1e {S:Nat->Prop} {B:Nat} {w w1 w2:World} (hB:Below B w w1) (hM:Mod S w1 w2) (hS:∀ i,S i->B<=i) (hsz:B<=w1.heap.size):Below B w w2 :=
 hB.trans ⟨hM.os,hM.tape,hM.output,hM.size,fun k hk=>hM.block k (by omega) (fun h=>by have:=hS k h;omega)⟩
def L2 (p:Nat):Nat->Ten:=upd (L1 p) 3 ⟨2,0,1,some p⟩
set_option maxHeartbeats 8000000 in
theorem awake_any (w:World):Calls Tryz.prog 11 #[] w fun e w'=>e=.returned (.bool true)/\Below w.heap.size w w':=by
 have HN:=hid (tNew_at 4 w (by omega) (by omega))
 go_enter Tryz.func11,Tryz.ntmps11
 go_wp2_with fail
 refine HN.out.mono ?_
 rintro e w1 ⟨t,sb,sg,kb,km,rfl,hT,hl,hB⟩
 have HT1:=hid hT
 have HL:=hid hl
 have HB1:=hid hB
 clear hT hl hB HN
 go_wp2_with fail
 refine (tabNew_at t w1).mono ?_
 rintro e w2 ⟨x,rfl,hX,hx,hB⟩
 have HX2:=hid hX
 have HT2:=hid (HT1.out.keep hB)
 have HXL:=hid hx
 have HB2:=hid (z0d HB1.out hB HB1.out.size)
 have HT1s:Hid (t<w1.heap.size/\sb<w1.heap.size/\sg<w1.heap.size/\kb<w1.heap.size/\km<w1.heap.size):=hid ⟨lt_of_block HT1.out.ht,HT1.out.hs.blt,HT1.out.hs.glt,HT1.out.hk.lt.1,HT1.out.hk.lt.2⟩
 have HB1s:Hid (w.heap.size<=w1.heap.size):=hid HB1.out.size
 clear hX hx hB HT1 HB1
 go_wp2_with fail
 have hxs:x≠t/\x≠sb/\x≠sg/\x≠kb/\x≠km:=by
  have:=HXL.out
  have g1:=HT1s.out
  omega
 refine (create_new (n:=3) (k:=0) (l:=fun _=>Ten.zero) (c:=⟨false,Nd.zero,0⟩) 2 9 w2 HX2.out HT2.out hxs (by omega) (by omega) rfl ⟨by simp[Ten.zero],by simp[Ten.zero]⟩ (first0 (by omega)) rfl rfl ref01 rfl rfl).mono ?_
 rintro e w3 ⟨rfl,p,m,hX,_,hP,hp,hm,hM⟩
 have HX3:Hid (TabAt 87 w3 x t (L1 p)):=hid hX
 have HP3:=hid hP
 have HXG:Hid (w.heap.size<=x):=hid (by have:=HXL.out;have:=HB1s.out;omega)
 have HPX:Hid (w2.heap.size<=p/\w2.heap.size<=m/\x<w2.heap.size/\w.heap.size<=w2.heap.size):=hid ⟨hp,hm,HX2.out.lt,HB2.out.size⟩
 have HB3:=hid (z1e HB2.out hM (by have:=HL.out;have:=HXG.out;rintro i (h|h|h)<;>omega) HB2.out.size)
 clear hX hP hp hm hM hxs HX2 HT2 HB2 HT1s HXL HB1s HL
 go_wp2_with fail
 have hI:=Issue_at (n:=3) (p:=p) 1 w3 HX3.out (by omega) (by omega) rfl (by omega) (by omega)
 rw[show (L1 p 3).gen=1 from rfl,show ((3:Nat):Int)=3 from rfl] at hI
 refine hI.mono ?_
 rintro e w4 ⟨rfl,hB⟩
 clear hI
 have HX4:=hid ((HX3.out.keep hB).alloc (.cells #[.int .i64 3,.int .u32 1,.int .u8 1] 51 (0,0)))
 have HP4:=hid ((HP3.out.keep hB).alloc (.cells #[.int .i64 3,.int .u32 1,.int .u8 1] 51 (0,0)))
 have HN4:=hid (z0a w4 (.cells #[.int .i64 3,.int .u32 1,.int .u8 1] 51 (0,0)))
 have HB4:=hid ((z0d HB3.out hB HB3.out.size).alloc (by have:=HB3.out.size;have:=hB.size;omega) (.cells #[.int .i64 3,.int .u32 1,.int .u8 1] 51 (0,0)))
 clear hB HX3 HP3 HB3
 go_wp2_with fail
 generalize w4.alloc (.cells #[.int .i64 3,.int .u32 1,.int .u8 1] 51 (0,0))=W4 at *
 generalize w4.heap.size=hb at *
 have hI:=Good_at 3 1 1 W4 HX4.out
 rw[show goodB (L1 p) 3 1 1=true from rfl] at hI
 refine hI.mono ?_
 rintro e w5 ⟨rfl,hB⟩
 clear hI
 have HX5:=hid (HX4.out.keep hB)
 have HP5:=hid (HP4.out.keep hB)
 have HN5:=hid (z0b HN4.out hB (lt_of_block HN4.out))
 have HB5:=hid (z0d HB4.out hB HB4.out.size)
 clear hB HX4 HP4 HN4 HB4
 go_wp2_with fail
 have hI:=revoke_at (n:=3) (p:=p) w5 HX5.out (by omega) (by omega) rfl ⟨by show (0:Int)<=1;omega,by show (1:Int)<4294967295;omega⟩
 refine hI.mono ?_
 rintro e w6 ⟨rfl,hX,hM⟩
 clear hI
 have HX6:Hid (TabAt 87 w6 x t (L2 p)):=hid hX
 have hpx:=HPX.out
 have HP6:=hid (HP5.out.mod hM (by omega) (by omega))
 have hbx:hb≠x:=fun e=>by
  have h1:=HX5.out.head.1
  have h2:=cell_of HN5.out 0
  rw[e,h1] at h2
  simp at h2
 have HN6:=hid ((hM.block hb (lt_of_block HN5.out) hbx).trans HN5.out)
 have HB6:=hid (z1e HB5.out hM (by have:=HXG.out;rintro i h;omega) HB5.out.size)
 clear hX hM hpx hbx HX5 HP5 HN5 HB5
 have n0:=cell_of HN6.out 0
 have n1:=cell_of HN6.out 1
 have n2:=cell_of HN6.out 2
 go_wp2_with fail
 have hI:=Good_at 3 1 1 w6 HX6.out
 rw[show goodB (L2 p) 3 1 1=false from rfl] at hI
 refine hI.mono ?_
 rintro e w7 ⟨rfl,hB⟩
 clear hI n0 n1 n2
 have HX7:=hid (HX6.out.keep hB)
 have HP7:=hid (HP6.out.keep hB)
 have HN7:=hid (z0b HN6.out hB (lt_of_block HN6.out))
 have HB7:=hid (z0d HB6.out hB HB6.out.size)
 clear hB HX6 HP6 HN6 HB6
 clear HN7
 go_wp2_with fail
 refine (Gate_at x 3 2 2 2 w7).mono ?_
 rintro e w8 ⟨gb,rfl,hG,hgb,hB⟩
 have HX8:=hid (HX7.out.keep hB)
 have HP8:=hid (HP7.out.keep hB)
 have HB8:=hid (z0d HB7.out hB HB7.out.size)
 have HG8:Hid (w8.heap[gb]?=some (GBlk ⟨x,3,2,2,2,none,0,0,0⟩)):=hid hG
 have hpl:=HP7.out.lt
 have hxl:=HX7.out.lt
 have HGN:Hid (gb≠p/\gb≠m/\¬ GOwn gb p m x/\w.heap.size<=gb):=hid (by
  have:=HPX.out
  have:=HB7.out.size
  refine⟨by omega,by omega,?_,by omega⟩
  rintro (h|h|h)<;>omega)
 clear hB hG hgb hpl hxl HX7 HP7 HB7
 have hmReserve:∀ (w:World) (b:Nat),(method 281 127 (.pointer (some ⟨b,0,none⟩)) "Reserve").run Tryz.prog w=.ok (171,.pointer (some ⟨b,0,none⟩)) w:=fun w b=>by kernel_rfl
 have hmCommit:∀ (w:World) (b:Nat),(method 281 127 (.pointer (some ⟨b,0,none⟩)) "Commit").run Tryz.prog w=.ok (169,.pointer (some ⟨b,0,none⟩)) w:=fun w b=>by kernel_rfl
 go_wp2_with fail
 have hI:=gReserve_ok (n:=3) (g:=⟨x,3,2,2,2,none,0,0,0⟩) (s:=S1) (1) (10) w8 HG8.out HX8.out (by simp) HP8.out i1 HGN.out.1 HGN.out.2.1 HGN.out.2.2.1 (by kernel_rfl) rfl (by omega) rfl (by decide) (by omega) (by omega)
 rw[show z2c S1 ⟨x,3,2,2,2,none,0,0,0⟩=S1 from rfl,e1] at hI
 refine hI.mono ?_
 rintro e w9 ⟨rfl,hG,hP,hM⟩
 clear hI
 have hpx:=HPX.out
 have HX9:=hid (HX8.out.mod hM HGN.out.2.2.1)
 have HB9:=hid (z1e HB8.out hM (by have:=HGN.out;have:=HPX.out;rintro i (h|h|h)<;>omega) HB8.out.size)
 have HP9:Hid (z0i w9 p m S1):=hid hP
 have HG9:Hid (w9.heap[gb]?=some (GBlk ⟨x,3,2,2,2,none,0,0,0⟩)):=hid hG
 have HMG9:=hid hM
 clear hG hP hM hpx HX8 HP8 HB8 HG8
 go_wp2_with fail
 have hI:=gReserve_ok (n:=3) (g:=⟨x,3,2,2,2,none,0,0,0⟩) (s:=S1) (1) (9) w9 HG9.out HX9.out (by simp) HP9.out i1 HGN.out.1 HGN.out.2.1 HGN.out.2.2.1 (by kernel_rfl) rfl (by omega) rfl (by decide) (by omega) (by omega)
 rw[show z2c S1 ⟨x,3,2,2,2,none,0,0,0⟩=S1 from rfl,e2] at hI
 refine hI.mono ?_
 rintro e w10 ⟨rfl,hG,hP,hM⟩
 clear hI
 have hpx:=HPX.out
 have HX10:=hid (HX9.out.mod hM HGN.out.2.2.1)
 have HB10:=hid (z1e HB9.out hM (by have:=HGN.out;have:=HPX.out;rintro i (h|h|h)<;>omega) HB9.out.size)
 have HP10:Hid (z0i w10 p m S2):=hid hP
 have HG10:Hid (w10.heap[gb]?=some (GBlk ⟨x,3,2,2,2,(some p),1,0,0⟩)):=hid hG
 have HMG10:=hid hM
 clear hG hP hM hpx HX9 HP9 HB9 HG9
 go_wp2_with fail
 have hI:=gCommit_yes (g:=⟨x,3,2,2,2,some p,1,0,0⟩) (s:=S2) w10 HG10.out rfl HP10.out i2 HGN.out.1 HGN.out.2.1 (by simp only;omega) (by simp only;omega)
 rw[e3] at hI
 refine hI.mono ?_
 rintro e w11 ⟨rfl,hG,hP,hM⟩
 clear hI
 have HX11:=hid (HX10.out.mod hM HGN.out.2.2.1)
 have HB11:=hid (z1e HB10.out hM (by have:=HGN.out;have:=HPX.out;rintro i (h|h|h)<;>omega) HB10.out.size)
 have HP11:Hid (z0i w11 p m S3):=hid hP
 have HG11:Hid (w11.heap[gb]?=some (GBlk ⟨x,3,2,2,2,none,1,0,0⟩)):=hid hG
 have HMG11:=hid hM
 clear hG hP hM HX10 HP10 HB10 HG10
 go_wp2_with fail
 have hI:=tHas_at (n:=3) (p:=p) w11 HX11.out (by omega) (by omega) rfl HP11.out
 rw[show S3.hk=1 from rfl,show S3.hb=9 from rfl] at hI
 refine hI.mono ?_
 rintro e w12 ⟨rfl,hB⟩
 clear hI
 have hX:=(HX11.out.keep hB).alloc (.cells #[.int .u64 1,.int .u64 9] 33 (0,0))
 have hP:=(HP11.out.keep hB).alloc (.cells #[.int .u64 1,.int .u64 9] 33 (0,0))
 have hG:=z0c (o':=(.cells #[.int .u64 1,.int .u64 9] 33 (0,0))) (z0b HG11.out hB (lt_of_block HG11.out))
 have hQ:=z0a w12 (.cells #[.int .u64 1,.int .u64 9] 33 (0,0))
 have hBB:=(z0d HB11.out hB HB11.out.size).alloc (by have:=HB11.out.size;have:=hB.size;omega) (.cells #[.int .u64 1,.int .u64 9] 33 (0,0))
 have hql:gb<w12.heap.size/\p<w12.heap.size/\m<w12.heap.size:=⟨lt_of_block (z0b HG11.out hB (lt_of_block HG11.out)),(HP11.out.keep hB).lt.1,(HP11.out.keep hB).lt.2⟩
 try have hQQ:=z0c (o':=(.cells #[.int .u64 1,.int .u64 9] 33 (0,0))) (z0b HQ11.out hB (lt_of_block HQ11.out))
 clear hB
 go_wp2_with fail
 generalize w12.alloc (.cells #[.int .u64 1,.int .u64 9] 33 (0,0))=w13 at *
 generalize w12.heap.size=qa at *
 have HX13:=hid hX
 have HP13:=hid hP
 have HG13:=hid hG
 have HB13:=hid hBB
 have HQN:=hid hQ
 have HQL:=hid hql
 try have HQ13:=hid hQQ
 try clear hQQ
 clear hX hP hG hBB hQ hql HX11 HP11 HG11 HB11
 have hqa:¬ GOwn gb p m qa:=by
  have:=HQL.out
  rintro (h|h|h)<;>omega
 have HQ:=hid HQN.out
 clear HQN HQL
 have hI:=gReserve_ok (n:=3) (g:=⟨x,3,2,2,2,none,1,0,0⟩) (s:=S3) ((-1)) ((-4)) w13 HG13.out HX13.out (by simp) HP13.out i3 HGN.out.1 HGN.out.2.1 HGN.out.2.2.1 (by kernel_rfl) rfl (by omega) rfl (by decide) (by omega) (by omega)
 rw[show z2c S3 ⟨x,3,2,2,2,none,1,0,0⟩=S3 from rfl,e4] at hI
 refine hI.mono ?_
 rintro e w14 ⟨rfl,hG,hP,hM⟩
 clear hI
 have hpx:=HPX.out
 have HX14:=hid (HX13.out.mod hM HGN.out.2.2.1)
 have HB14:=hid (z1e HB13.out hM (by have:=HGN.out;have:=HPX.out;rintro i (h|h|h)<;>omega) HB13.out.size)
 have HP14:Hid (z0i w14 p m S4):=hid hP
 have HG14:Hid (w14.heap[gb]?=some (GBlk ⟨x,3,2,2,2,(some p),2,1,4⟩)):=hid hG
 have HMG14:=hid hM
 clear hG hP hM hpx HX13 HP13 HB13 HG13
 have HQ14:=hid ((HMG14.out.block qa (lt_of_block HQ.out) hqa).trans HQ.out)
 clear HQ HMG14
 go_wp2_with fail
 have hI:=gCommit_yes (g:=⟨x,3,2,2,2,some p,2,1,4⟩) (s:=S4) w14 HG14.out rfl HP14.out i4 HGN.out.1 HGN.out.2.1 (by simp only;omega) (by simp only;omega)
 rw[e5] at hI
 refine hI.mono ?_
 rintro e w15 ⟨rfl,hG,hP,hM⟩
 clear hI
 have HX15:=hid (HX14.out.mod hM HGN.out.2.2.1)
 have HB15:=hid (z1e HB14.out hM (by have:=HGN.out;have:=HPX.out;rintro i (h|h|h)<;>omega) HB14.out.size)
 have HP15:Hid (z0i w15 p m S5):=hid hP
 have HG15:Hid (w15.heap[gb]?=some (GBlk ⟨x,3,2,2,2,none,2,1,4⟩)):=hid hG
 have HMG15:=hid hM
 clear hG hP hM HX14 HP14 HB14 HG14
 have HQ15:=hid ((HMG15.out.block qa (lt_of_block HQ14.out) hqa).trans HQ14.out)
 clear HQ14 HMG15
 go_wp2_with fail
 have hI:=tHas_at (n:=3) (p:=p) w15 HX15.out (by omega) (by omega) rfl HP15.out
 rw[show S5.hk=0 from rfl,show S5.hb=5 from rfl] at hI
 refine hI.mono ?_
 rintro e w16 ⟨rfl,hB⟩
 clear hI
 have hQ:=z0c (o':=(.cells #[.int .u64 0,.int .u64 5] 33 (0,0))) (z0b HQ15.out hB (lt_of_block HQ15.out))
 have hQ2:=z0a w16 (.cells #[.int .u64 0,.int .u64 5] 33 (0,0))
 have HB:=hid ((z0d HB15.out hB HB15.out.size).alloc (by have:=HB15.out.size;have:=hB.size;omega) (.cells #[.int .u64 0,.int .u64 5] 33 (0,0)))
 have q0:=cell_of hQ 0
 have q1:=cell_of hQ 1
 have q2:=cell_of hQ2 0
 have q3:=cell_of hQ2 1
 clear hQ hQ2 hB
 go_wp2
 go_ret
 exact⟨rfl,HB.out⟩
open Go.Burg.Purse (St Inv)
theorem gReserve_bad {gb:Nat} {g:Gt} (k y:Int) (w:World) (h:w.heap[gb]?=some (GBlk g)) (hT:TabAt 87 w g.x t l) (hgp:g.p=none) (hm:mayI l g.tn g.gn g.rt g.d=11) :
 Calls Tryz.prog 171 #[.pointer (some ⟨gb,0,none⟩),.agg #[.int .i64 k,.int .i64 y]] w fun e w'=>e=.returned (.int .i64 11)/\Below w.heap.size w w':=by
 obtain⟨gx,tn,gn,rt,d,gp,tk,l0,l1⟩:=g
 simp only at hT hgp hm
 subst hgp
 have hG:=z0c (o':=(.cells #[.int .i64 k,.int .i64 y] 60 (0,0))) h
 have HR:=hid (gRefund_no _ hG rfl)
 have hTa:=hT.alloc (.cells #[.int .i64 k,.int .i64 y] 60 (0,0))
 have hB:Below w.heap.size w (w.alloc (.cells #[.int .i64 k,.int .i64 y] 60 (0,0))):=(Below.refl _ _).alloc (Nat.le_refl _) _
 clear h hT
 go_enter Tryz.func171,Tryz.ntmps171
 go_wp2_with (go_at_call 170;refine HR.out.mono ?_;rintro e wa ⟨rfl,rfl⟩)
 generalize w.alloc (.cells #[.int .i64 k,.int .i64 y] 60 (0,0))=W at *
 have HG:=hid hG
 have HB:=hid hB
 have HY:=hid (fun (w1:World) (hw1:Below W.heap.size W w1)=>May_at tn gn rt d w1 (hTa.keep hw1))
 rw[hm] at HY
 clear hm hG hTa hB HR
 refine z0g 14 (fun w1=>Below (W).heap.size (W) w1) (by kernel_rfl) (by kernel_rfl) (by kernel_rfl) ⟨rfl,rfl,rfl,Nat.le_refl _,fun _ _=>rfl⟩ ?_
 dsimp only[List.take]
 iterate 14
  refine Seq.cons (a':=?_) ?_ ?_ ?_
  rotate_left
  ·intro w1 hw1
   have hG1:=z0b HG.out hw1 (lt_of_block HG.out)
   obtain⟨c0,c1,c2,c3,c4,c5,c6,c7,c8,cf⟩:=gfacts hG1
   simp only[Option.map_none] at c0 c1 c2 c3 c4 c5 c6 c7 c8
   clear hG1
   go_wp2_with (go_at_call 173;refine (HY.out _ hw1).mono ?_;rintro e w' ⟨rfl,hb⟩)
   refine⟨?_,by first|assumption|(simpa using z0d hw1 hb hw1.size)⟩
   exact rfl
  ·kernel_rfl
 refine SeqI.nil ?_
 intro _ w1 _ hw1
 dsimp only[List.drop]
 go_wp2
 go_ret
 exact⟨rfl,HB.out.trans (hw1.mono HB.out.size)⟩
open Go.Burg.Purse (St Inv)
theorem anchor1_any (w:World) (h:TabAt 87 w x t l) (h2:n<=16) {u v:Int} (hc:w.heap[c]?=some (.cells #[.int .i64 u,.int .u32 v] 36 (0,0))) :
 Calls Tryz.prog 27 #[.pointer (some ⟨x,1+n * 4,none⟩),.pointer (some ⟨c,0,none⟩)] w fun e w'=>e=.returned (.tuple #[])/\w'.heap[c]?=some (.cells #[.int .i64 (l n).slot,.int .u32 (l n).agen] 36 (0,0))/\Mod (·=c) w w':=by
 obtain⟨_,c1,c2,_⟩:=h.cell (show n<17 by omega)
 have k0:=cell_of hc 0
 have k1:=cell_of hc 1
 have kf:=z0e hc
 have HC:=hid hc
 clear hc h
 go_enter Tryz.func27,Tryz.ntmps27
 go_wp2_with fail
 go_end0
 exact⟨rfl,z0y (z0y (cs':=#[.int .i64 (l n).slot,.int .u32 v]) HC.out rfl) rfl,Mod.setCell (S:=(·=c)) (p:=⟨c,1,none⟩) (Mod.setCell (S:=(·=c)) (p:=⟨c,0,none⟩) (Mod.refl _ _) (.inl rfl) _) (.inl rfl) _⟩
theorem of_anchor (w:World) (h:TabAt 87 w x t l) (h1:1<=n) (h2:n<=16) (hp:(l n).purse=some p) {u v:Int} (hc:w.heap[c]?=some (.cells #[.int .i64 u,.int .u32 v] 36 (0,0))) :
 Calls Tryz.prog 23 #[.pointer (some ⟨x,0,none⟩),.int .i64 n,.func (.func 27) #[] #[.pointer (some ⟨c,0,none⟩)]] w fun e w'=>e=.returned (.int .i64 0)/\w'.heap[c]?=some (.cells #[.int .i64 (l n).slot,.int .u32 (l n).agen] 36 (0,0))/\Mod (·=c) w w':=by
 have HI:=hid (anchor1_any w h h2 hc)
 clear hc
 have HT:=hid (z1i w h)
 obtain⟨_,cf⟩:=h.head
 obtain⟨c0,c1,c2,c3⟩:=h.cell (show n<17 by omega)
 rw[hp] at c3
 simp only[Option.map_some] at c3
 clear c0 c1 c2 hp
 have g1:decide ((n:Int)<1)=false:=by simp;omega
 have g2:decide ((n:Int) > 16)=false:=by simp;omega
 go_enter Tryz.func23,Tryz.ntmps23
 go_wp2_with (first|(go_at_call 55;refine HT.out.mono ?_;rintro e w2 ⟨rfl,rfl⟩)|(go_at_call 27;refine HI.out.mono ?_;rintro e w2 ⟨rfl,hC,hM⟩))
 go_ret
 exact⟨rfl,hC,hM⟩
theorem Anchor_at (w:World) (h:TabAt 87 w x t l) (h1:1<=n) (h2:n<=16) (hp:(l n).purse=some p) :
 Calls Tryz.prog 7 #[.pointer (some ⟨x,0,none⟩),.int .i64 n] w fun e w'=>e=.returned (.tuple #[.agg #[.int .i64 (l n).slot,.int .u32 (l n).agen],.bool true])/\Below w.heap.size w w':=by
 have hA:=h.alloc (.cells #[.int .i64 0,.int .u32 0] 36 (0,0))
 have hN:=z0a w (.cells #[.int .i64 0,.int .u32 0] 36 (0,0))
 have HI:=hid (of_anchor _ hA h1 h2 hp hN)
 clear hA hN hp
 go_enter Tryz.func7,Tryz.ntmps7
 go_wp2_with (go_at_call 23;refine HI.out.mono ?_;rintro e w2 ⟨rfl,hC,hM⟩;have k0:=cell_of hC 0;have k1:=cell_of hC 1;have kf:=z0e hC)
 refine bodyPost_ret (v:=.tuple #[.agg #[_,_],_]) (by simp[results,Tryz.results7,go_sem,k0,k1]) rfl ⟨rfl,?_⟩
 have hB:Below w.heap.size w w2:=below_of hM
 exact (hB.setCell (Nat.le_refl _) _).setCell (Nat.le_refl _) _
theorem create_P {sb sg kb km j:Nat} {lt:Nat->Ten} {P:List (Cel PNd)} {L:List (RefK × Wd)} {tk:Int} {pj:Cel PNd} (mk mb:Int) (w:World) (hX:TabAt 87 w x t lt) (h:z0s w t sb sg kb km P L tk)
 (hx:x≠t/\x≠sb/\x≠sg/\x≠kb/\x≠km) (h1:1<=n) (h2:n<=16) (hp:(lt n).purse=none) (hg:0<=(lt n).gen/\(lt n).gen<4294967295)
 (hF:z2s P (j:Int)) (hj:P[j]?=some pj) (hr:pj.room=true) (r:RefK) (hr1:r.1.1=j) (hr2:r.1.2=pj.gen+1) :
 Calls Tryz.prog 6 #[.pointer (some ⟨x,0,none⟩),.int .i64 n,.agg #[.int .u64 mk,.int .u64 mb]] w fun e w'=>e=.returned (.int .i64 0)/\∃ p m,TabAt 87 w' x t (upd lt n ⟨(lt n).gen+1,j,pj.gen+1,some p⟩)/\z0s w' t sb sg kb km (P.set j ⟨true,⟨.z0k 5 ⟨#[]⟩ [],true,false⟩,pj.gen+1⟩) (K.addL L r).2 tk/\z0i w' p m (St.new mk mb)/\w.heap.size<=p/\w.heap.size<=m/\Mod (COwn x sg km) w w':=by
 obtain⟨l,hl,hre⟩:=h
 obtain⟨cj,hcj,_,hcg,hcr⟩:=hre.cell hj
 have hxr:NoRow w x:=fun cs T fr hk=>by
  obtain⟨cs',h1,_⟩:=hX
  rw[h1] at hk
  cases hk
  exact⟨by decide,by decide⟩
 have:=create_new mk mb w hX hl hx h1 h2 hp hg (hre.first hF) hcj (hcr.trans hr) r hr1 (hr2.trans (by rw[hcg]))
 rw[hcg] at this
 refine this.mono ?_
 rintro e w' ⟨e1,p,m,a1,a2,a3,a4,a5,hM⟩
 have hre':=hre.mod hM (fun k hk=>by
  rcases hk with e|hk
  ·subst e;exact hxr
  ·exact hl.noRow k hk)
 exact⟨e1,p,m,a1,⟨_,a2,Rel.set (x:=anchorN) (q:=⟨.z0k 5 ⟨#[]⟩ [],true,false⟩) hre' true (fun _=>⟨rfl,rfl,rfl,rfl,rfl,rfl,⟨World.ownsRow_nil _ _ _ _,World.ownsRow_nil _ _ _ _,by omega,by omega,by decide,by simp[z0v],List.Pairwise.nil,fun _ h=>by simp at h⟩,.inr ⟨rfl,rfl⟩⟩)⟩,a3,a4,a5,hM⟩
end Go.Proofs.YtgdmfledhhoedaaGreatDoor.T
