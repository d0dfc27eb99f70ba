/- Part 10 of 27. -/
import Derived.Test.YtgdmfledhhoedaaGreatDoorD09
import Derived.Test.YtgdmfledhhoedaaGreatDoorD01
import Derived.BigQuiet
import Derived.WalkKit
import Derived.Test.YtgdmfledhhoedaaGreatDoorRows
import Derived.Test.YtgdmfledhhoedaaGreatDoorD02
import Derived.Laws.Strings
namespace Go.Proofs.YtgdmfledhhoedaaGreatDoor.T
set_option maxRecDepth 8000
open Go.ChangeShapes Go.WideShapes Go.ChangeAt Go.RowKit Go.Burg
open Go.Burg.Lk
structure NodeMid (W w1:World) (u:Nat) (o:Obj):Prop where
 hb:Below W.heap.size W w1
 hu:W.heap.size<=u
 ho:w1.heap[u]?=some o
variable {W w2:World}
theorem nmidA {o:Obj} (h:Below W.heap.size W w2):NodeMid W (w2.alloc o) w2.heap.size o:=⟨h.alloc h.size _,h.size,z0a _ _⟩
theorem nmidB {kn:Int} {cd vl pt:ByteArray} {ya za:Option Addr} {yn yc zn zc:Nat} {pl di:Bool} (h:Below W.heap.size W w2) (z:w2.heap[W.heap.size]?=some (.cells #[.int .i64 0,.string ⟨#[]⟩,.string ⟨#[]⟩,.string ⟨#[]⟩,.slice none 0 0,.slice none 0 0,.bool false,.bool false] 104 (0,0))):NodeMid W ((((((((w2.setCell ⟨W.heap.size,0,none⟩ (.int .i64 kn)).setCell ⟨W.heap.size,1,none⟩ (.string cd)).setCell ⟨W.heap.size,2,none⟩ (.string vl)).setCell ⟨W.heap.size,3,none⟩ (.string pt)).setCell ⟨W.heap.size,4,none⟩ (.slice ya yn yc)).setCell ⟨W.heap.size,5,none⟩ (.slice za zn zc)).setCell ⟨W.heap.size,6,none⟩ (.bool pl)).setCell ⟨W.heap.size,7,none⟩ (.bool di)) W.heap.size (.cells #[.int .i64 kn,.string cd,.string vl,.string pt,.slice ya yn yc,.slice za zn zc,.bool pl,.bool di] 104 (0,0)):=by
 refine⟨?_,Nat.le_refl _,?_⟩
 ·iterate 8 with_reducible refine Below.setCell ?_ (show W.heap.size<=W.heap.size from Nat.le_refl _) _
  exact h
 ·exact z0y (cs:=#[.int .i64 kn,.string cd,.string vl,.string pt,.slice ya yn yc,.slice za zn zc,.bool pl,.bool false]) (z0y (cs:=#[.int .i64 kn,.string cd,.string vl,.string pt,.slice ya yn yc,.slice za zn zc,.bool false,.bool false]) (z0y (cs:=#[.int .i64 kn,.string cd,.string vl,.string pt,.slice ya yn yc,.slice none 0 0,.bool false,.bool false]) (z0y (cs:=#[.int .i64 kn,.string cd,.string vl,.string pt,.slice none 0 0,.slice none 0 0,.bool false,.bool false]) (z0y (cs:=#[.int .i64 kn,.string cd,.string vl,.string ⟨#[]⟩,.slice none 0 0,.slice none 0 0,.bool false,.bool false]) (z0y (cs:=#[.int .i64 kn,.string cd,.string ⟨#[]⟩,.string ⟨#[]⟩,.slice none 0 0,.slice none 0 0,.bool false,.bool false]) (z0y (cs:=#[.int .i64 kn,.string ⟨#[]⟩,.string ⟨#[]⟩,.string ⟨#[]⟩,.slice none 0 0,.slice none 0 0,.bool false,.bool false]) (z0y z rfl) rfl) rfl) rfl) rfl) rfl) rfl) rfl
variable {c:Cel Nd} {tk:Int} {l:List (Cel Nd)} {L:List (RefK × Wd)} {i kb km sb sg t:Nat}
set_option maxHeartbeats 4000000 in
theorem node_at (slot gen:Int) (w:World) (h:TreeAt w t sb sg kb km l L tk) (hL:S.Live l slot gen i c) :
 Calls Tryz.prog 32 #[.pointer (some ⟨t,0,none⟩),.agg #[.int .i64 slot,.int .u32 gen]] w fun e w'=>e=.returned (.agg #[.int .i64 c.x.kind,.string c.x.code,.string c.x.value,.string c.x.path,.slice c.x.bytes.a c.x.bytes.n c.x.bytes.c,.slice c.x.kids.a c.x.kids.n c.x.kids.c])/\Below w.heap.size w w':=by
 have hN:=z0c (o':=(.cells #[.int .i64 0,.string ⟨#[]⟩,.string ⟨#[]⟩,.string ⟨#[]⟩,.slice none 0 0,.slice none 0 0] 102 (0,0))) (z0a w (.cells #[.int .i64 slot,.int .u32 gen] 36 (0,0)))
 have hZ:=z0a (w.alloc (.cells #[.int .i64 slot,.int .u32 gen] 36 (0,0))) (.cells #[.int .i64 0,.string ⟨#[]⟩,.string ⟨#[]⟩,.string ⟨#[]⟩,.slice none 0 0,.slice none 0 0] 102 (0,0))
 have hs1:(w.alloc (.cells #[.int .i64 slot,.int .u32 gen] 36 (0,0))).heap.size=w.heap.size+1:=by simp
 rw[hs1] at hZ
 have hA:=(h.alloc (.cells #[.int .i64 slot,.int .u32 gen] 36 (0,0))).alloc (.cells #[.int .i64 0,.string ⟨#[]⟩,.string ⟨#[]⟩,.string ⟨#[]⟩,.slice none 0 0,.slice none 0 0] 102 (0,0))
 have hB:Below w.heap.size w ((w.alloc (.cells #[.int .i64 slot,.int .u32 gen] 36 (0,0))).alloc (.cells #[.int .i64 0,.string ⟨#[]⟩,.string ⟨#[]⟩,.string ⟨#[]⟩,.slice none 0 0,.slice none 0 0] 102 (0,0))):=((Below.refl _ _).alloc (Nat.le_refl _) _).alloc (by simp) _
 obtain⟨is,⟨kn,cd,vl,pt,⟨ya,yn,yc⟩,⟨za,zn,zc⟩,pl,di⟩,gn⟩:=c
 clear hs1
 generalize hW:(w.alloc (.cells #[.int .i64 slot,.int .u32 gen] 36 (0,0))).alloc (.cells #[.int .i64 0,.string ⟨#[]⟩,.string ⟨#[]⟩,.string ⟨#[]⟩,.slice none 0 0,.slice none 0 0] 102 (0,0))=W at *
 have HW:=hid hW
 have HA:=hid hA
 have HN:=hid hN
 have HZ:=hid hZ
 have HB:=hid hB
 have HT:Hid (∀ w1,Below W.heap.size W w1->Calls Tryz.prog 67 #[.pointer (some ⟨sb,0,none⟩),.agg #[.int .i64 slot,.int .u32 gen]] w1 fun e w'=>e=.returned (.tuple #[.agg #[.int .i64 kn,.string cd,.string vl,.string pt,.slice ya yn yc,.slice za zn zc,.bool pl,.bool di],.bool true])/\Below w1.heap.size w1 w'):=hid (fun (w1:World) (hw1:Below W.heap.size W w1)=>S.get_live slot gen w1 (HA.out.keep hw1).hs hL)
 have c0:=cell_of HA.out.ht 0
 have n0:=cell_of HN.out 0
 have n1:=cell_of HN.out 1
 have l0:=lt_of_block HN.out
 have l1:=lt_of_block HA.out.ht
 have l2:=lt_of_block HZ.out
 clear hW hA hN hB hZ h hL
 go_enter Tryz.func32,Tryz.ntmps32
 go_wp2_with fail
 rw[HW.out]
 go_region_with (go_at_call 67;refine (HT.out _ (by (repeat (first|exact Below.refl _ _|assumption|with_reducible refine Below.drew ?_|with_reducible refine below_drewN ?_|with_reducible refine Below.setCell ?_ (by first|(simp;done)|(simp;omega)) _|with_reducible refine Below.alloc ?_ (by first|exact Nat.le_refl _|(simp;done)|(simp;omega)) _)))).mono ?_;rintro e w2 ⟨rfl,hw2⟩;(try (have z:=(hw2.block W.heap.size (by simp)).trans (z0a W (.cells #[.int .i64 0,.string ⟨#[]⟩,.string ⟨#[]⟩,.string ⟨#[]⟩,.slice none 0 0,.slice none 0 0,.bool false,.bool false] 104 (0,0)));have z0:=cell_of z 0;have z1:=cell_of z 1;have z2:=cell_of z 2;have z3:=cell_of z 3;have z4:=cell_of z 4;have z5:=cell_of z 5;have z6:=cell_of z 6;have z7:=cell_of z 7;have zf:=z0e z));have HW2:Hid (Below W.heap.size W w2):=hid (z0d (by (repeat (first|exact Below.refl _ _|assumption|with_reducible refine Below.drew ?_|with_reducible refine below_drewN ?_|with_reducible refine Below.setCell ?_ (by first|(simp;done)|(simp;omega)) _|with_reducible refine Below.alloc ?_ (by first|exact Nat.le_refl _|(simp;done)|(simp;omega)) _))) hw2 (by first|exact Nat.le_refl _|(simp;done)|(simp;omega)));clear hw2)
 all_goals first|(have hmid:=nmidB (kn:=kn) (cd:=cd) (vl:=vl) (pt:=pt) (ya:=ya) (za:=za) (yn:=yn) (yc:=yc) (zn:=zn) (zc:=zc) (pl:=pl) (di:=di) HW2.out z;generalize hE:((((((((w2.setCell ⟨W.heap.size,0,none⟩ (.int .i64 kn)).setCell ⟨W.heap.size,1,none⟩ (.string cd)).setCell ⟨W.heap.size,2,none⟩ (.string vl)).setCell ⟨W.heap.size,3,none⟩ (.string pt)).setCell ⟨W.heap.size,4,none⟩ (.slice ya yn yc)).setCell ⟨W.heap.size,5,none⟩ (.slice za zn zc)).setCell ⟨W.heap.size,6,none⟩ (.bool pl)).setCell ⟨W.heap.size,7,none⟩ (.bool di))=w3 at hmid ⊢;generalize hEu:W.heap.size=u at hmid ⊢)|(have hmid:=nmidA (o:=(.cells #[.int .i64 kn,.string cd,.string vl,.string pt,.slice ya yn yc,.slice za zn zc,.bool pl,.bool di] 104 (0,0))) HW2.out;generalize hE:w2.alloc (.cells #[.int .i64 kn,.string cd,.string vl,.string pt,.slice ya yn yc,.slice za zn zc,.bool pl,.bool di] 104 (0,0))=w3 at hmid ⊢;generalize hEu:w2.heap.size=u at hmid ⊢)
 all_goals
  first|subst hEu|skip
  try clear z z0 z1 z2 z3 z4 z5 z6 z7 zf
  clear hE HT c0 n0 n1 HW2
  obtain⟨hb3,hu,ho⟩:=hmid
  have y:=z0b HZ.out hb3 l2
  have o0:=cell_of ho 0
  have o1:=cell_of ho 1
  have o2:=cell_of ho 2
  have o3:=cell_of ho 3
  have o4:=cell_of ho 4
  have o5:=cell_of ho 5
  have y0:=cell_of y 0
  have y1:=cell_of y 1
  have y2:=cell_of y 2
  have y3:=cell_of y 3
  have y4:=cell_of y 4
  have y5:=cell_of y 5
  have yf:=z0e y
  have HB3:=hid hb3
  clear y ho hb3
  go_wp2
  refine bodyPost_ret (v:=.agg #[_,_,_,_,_,_]) (by simp[results,Tryz.results32,go_sem,y0,y1,y2,y3,y4,y5]) rfl ⟨rfl,?_⟩
  iterate 6 with_reducible refine Below.setCell ?_ (Nat.le_succ _) _
  exact HB.out.trans (HB3.out.mono HB.out.size)
set_option maxHeartbeats 4000000 in
theorem pfree_at (slot gen:Int) (w:World) (h:TreeAt w t sb sg kb km l L tk) (hL:S.Live l slot gen i c) (r:RefK) (hr1:r.1.1=slot) (hr2:r.1.2=gen) :
 Calls Tryz.prog 86 #[.pointer (some ⟨t,0,none⟩),.agg #[.int .i64 slot,.int .u32 gen]] w fun e w'=>e=.returned (.tuple #[])/\TreeAt w' t sb sg kb km (l.set i ⟨false,Nd.zero,c.gen⟩) (K.goneL L r).2 tk/\Mod (TOwn sg km) w w':=by
 have hN:=z0a w (.cells #[.int .i64 slot,.int .u32 gen] 36 (0,0))
 have hA:=h.alloc (.cells #[.int .i64 slot,.int .u32 gen] 36 (0,0))
 have hB:Below w.heap.size w (w.alloc (.cells #[.int .i64 slot,.int .u32 gen] 36 (0,0))):=(Below.refl _ _).alloc (Nat.le_refl _) _
 have hu1:w.heap.size≠sg:=by have:=h.hs.glt;omega
 have hu2:w.heap.size≠km:=by have:=h.hk.lt.2;omega
 obtain⟨hn1,hn2,hn3,hn4,hn5,hn6,hn7⟩:=h.ne
 generalize hW:w.alloc (.cells #[.int .i64 slot,.int .u32 gen] 36 (0,0))=W at *
 generalize hu:w.heap.size=u at *
 have HU:=hid hu
 have HW:=hid hW
 have HT:=hid hA.ht
 have HS:=hid hA.hs
 have HK:=hid hA.hk
 have HN:=hid hN
 have HB:=hid hB
 have HR1:=hid hr1
 have HR2:=hid hr2
 clear hW hA hN hB h hr1 hr2 hu
 go_enter Tryz.func86,Tryz.ntmps86
 go_wp2_with fail
 rw[HW.out,HU.out]
 refine z0f 6 (Turn 5 (fun w1=>Mod (·=sg) W w1/\SlabN 193 150 w1 sb sg l) (fun w1=>Mod (·=sg) W w1/\SlabN 193 150 w1 sb sg (l.set i ⟨false,Nd.zero,c.gen⟩))) (by kernel_rfl) (by kernel_rfl) (by kernel_rfl) (Turn.start ⟨(Mod.refl (·=sg) W).drew,HS.out.same rfl rfl⟩) ?_
 dsimp only[List.take]
 iterate 5
  refine Seq.calm (a':=?_) (by decide) ?_ ?_ ?_
  rotate_left
  ·intro w1 hw1
   have hM:Mod (·=sg) W w1:=hw1.elim (·.1) (·.1)
   have ht1:=(hM.block t (lt_of_block HT.out) hn1).trans HT.out
   have hn1:=(hM.block u (lt_of_block HN.out) hu1).trans HN.out
   have t0:=cell_of ht1 0
   have t1:=cell_of ht1 1
   have n0:=cell_of hn1 0
   have n1:=cell_of hn1 1
   clear hM ht1 hn1 hw1
   go_wp2_with (fail)
   refine⟨?_,id,id⟩;exact rfl
  ·kernel_rfl
 refine Seq.turn (a':=?_) ?_ ?_ ?_
 rotate_left
 ·intro w1 hw1
  have HM:=hid hw1.1
  have HS1:=hid hw1.2
  clear hw1
  go_wp2_with (go_at_call 108;refine (S.free_live slot gen _ HS1.out hL).mono ?_;rintro e w2 ⟨rfl,hS,hX⟩)
  refine⟨?_,HM.out.trans hX (fun _ _ h=>h),hS⟩
  exact rfl
 ·kernel_rfl
 iterate 0
  refine Seq.calm (a':=?_) (by decide) ?_ ?_ ?_
  rotate_left
  ·intro w1 hw1
   have hM:Mod (·=sg) W w1:=hw1.elim (·.1) (·.1)
   have ht1:=(hM.block t (lt_of_block HT.out) hn1).trans HT.out
   have hn1:=(hM.block u (lt_of_block HN.out) hu1).trans HN.out
   have t0:=cell_of ht1 0
   have t1:=cell_of ht1 1
   have n0:=cell_of hn1 0
   have n1:=cell_of hn1 1
   clear hM ht1 hn1 hw1
   go_wp2_with (fail)
   refine⟨?_,id,id⟩;exact rfl
  ·kernel_rfl
 refine SeqI.nil ?_
 intro D w1 hD hI
 replace hI:=hI.done (hD 5 (by omega))
 clear hD
 dsimp only[List.drop]
 obtain⟨hM1,hS1⟩:=hI
 have HT2:=hid ((hM1.block t (lt_of_block HT.out) hn1).trans HT.out)
 have HN2:=hid ((hM1.block u (lt_of_block HN.out) hu1).trans HN.out)
 have HK2:=hid (HK.out.mod hM1 hn5 (fun e=>hn7 e.symm))
 have HM1:=hid hM1
 have HS1:=hid hS1
 clear hM1 hS1 HT HN HK HS
 have HT:=HT2
 have HN:=HN2
 have HK:=HK2
 clear HT2 HN2 HK2
 rename World=>w3
 go_wp2_with fail
 refine z0f 6 (Turn 5 (fun w1=>Mod (·=km) w3 w1/\z0q refV K.wV w1 km L) (fun w1=>Mod (·=km) w3 w1/\z0q refV K.wV w1 km (K.goneL L r).2)) (by kernel_rfl) (by kernel_rfl) (by kernel_rfl) (Turn.start ⟨(Mod.refl (·=km) w3).drew,HK.out.2.same rfl⟩) ?_
 dsimp only[List.take]
 iterate 5
  refine Seq.calm (a':=?_) (by decide) ?_ ?_ ?_
  rotate_left
  ·intro w1 hw1
   have hM:Mod (·=km) w3 w1:=hw1.elim (·.1) (·.1)
   have ht1:=(hM.block t (lt_of_block HT.out) hn2).trans HT.out
   have hn1:=(hM.block u (lt_of_block HN.out) hu2).trans HN.out
   have t0:=cell_of ht1 0
   have t1:=cell_of ht1 1
   have n0:=cell_of hn1 0
   have n1:=cell_of hn1 1
   clear hM ht1 hn1 hw1
   go_wp2_with (fail)
   refine⟨?_,id,id⟩;exact rfl
  ·kernel_rfl
 refine Seq.turn (a':=?_) ?_ ?_ ?_
 rotate_left
 ·intro w1 hw1
  have hK1:K.z1r w1 kb km L tk:=⟨(hw1.1.block kb HK.out.lt.1 hn6).trans HK.out.1,hw1.2⟩
  have HAD:=K.gone_at hK1 r
  rw[HR1.out,HR2.out] at HAD
  have HAD:=hid HAD
  have HM:=hid hw1.1
  clear hw1 hK1
  go_wp2_with (go_at_call 109;refine HAD.out.mono ?_;rintro e w2 ⟨rfl,hP,hX⟩)
  refine⟨?_,HM.out.trans hX (fun _ _ h=>h),hP⟩
  exact rfl
 ·kernel_rfl
 iterate 0
  refine Seq.calm (a':=?_) (by decide) ?_ ?_ ?_
  rotate_left
  ·intro w1 hw1
   have hM:Mod (·=km) w3 w1:=hw1.elim (·.1) (·.1)
   have ht1:=(hM.block t (lt_of_block HT.out) hn2).trans HT.out
   have hn1:=(hM.block u (lt_of_block HN.out) hu2).trans HN.out
   have t0:=cell_of ht1 0
   have t1:=cell_of ht1 1
   have n0:=cell_of hn1 0
   have n1:=cell_of hn1 1
   clear hM ht1 hn1 hw1
   go_wp2_with (fail)
   refine⟨?_,id,id⟩;exact rfl
  ·kernel_rfl
 refine SeqI.nil ?_
 intro D w1 hD hI
 replace hI:=hI.done (hD 5 (by omega))
 clear hD
 dsimp only[List.drop]
 obtain⟨hM2,hP2⟩:=hI
 go_wp2
 go_end0
 have hMa:Mod (TOwn sg km) w w3:=(Mod.z0j (S:=TOwn sg km) (by rw[HU.out];exact HB.out)).trans HM1.out (fun _ _ h=>.inl h)
 exact⟨rfl,⟨(hM2.block t (lt_of_block HT.out) hn2).trans HT.out,HS1.out.mod hM2 hn3 hn7,(hM2.block kb HK.out.lt.1 hn6).trans HK.out.1,hP2⟩,hMa.trans hM2 (fun _ _ h=>.inr h)⟩
end Go.Proofs.YtgdmfledhhoedaaGreatDoor.T
namespace Go.Burg
open Go Go.RowKit
section
variable {tc:TypeId} {w:World} {g:Nat} {l:List (Cel Nd)}
theorem CellsN.put8 (h:CellsN tc w g l) {i:Nat} {c:Cel Nd} (hi:l[i]?=some c) (x:Nd) :
 CellsN tc ((((((((w.setCell ⟨g,i * 10+1,none⟩ (.int .i64 x.kind)).setCell ⟨g,i * 10+2,none⟩ (.string x.code)).setCell ⟨g,i * 10+3,none⟩ (.string x.value)).setCell ⟨g,i * 10+4,none⟩ (.string x.path)).setCell ⟨g,i * 10+5,none⟩ (.slice x.bytes.a x.bytes.n x.bytes.c)).setCell ⟨g,i * 10+6,none⟩ (.slice x.kids.a x.kids.n x.kids.c)).setCell ⟨g,i * 10+7,none⟩ (.bool x.planted)).setCell ⟨g,i * 10+8,none⟩ (.bool x.died)) g (l.set i ⟨c.is,x,c.gen⟩):=by
 obtain⟨cs,h1,h2⟩:=h.hg
 refine⟨⟨_,heap_set (heap_set (heap_set (heap_set (heap_set (heap_set (heap_set (heap_set h1))))))),fun j e hj k hk=>?_⟩,fun d hd=>?_⟩
 ·have hil:i<l.length:=(List.getElem?_eq_some_iff.1 hi).1
  have a9:cs[i * 10+9]?=some (.int .u32 c.gen):=h2 i c hi 9 (by omega)
  have a0:cs[i * 10+0]?=some (.bool c.is):=h2 i c hi 0 (by omega)
  have s3:i * 10+9<cs.size:=(Array.getElem?_eq_some_iff.1 a9).1
  by_cases hij:i=j
  ·subst hij
   rw[List.getElem?_set_self hil] at hj
   cases hj
   rcases (by omega:k=0\/k=9\/(1<=k/\k<=8)) with rfl|rfl|⟨k1,k8⟩
   ·iterate 8 rw[z2q,if_neg (by omega)]
    exact a0
   ·iterate 8 rw[z2q,if_neg (by omega)]
    exact a9
   ·rcases (by omega:k=1\/k=2\/k=3\/k=4\/k=5\/k=6\/k=7\/k=8) with rfl|rfl|rfl|rfl|rfl|rfl|rfl|rfl<;>simp[z2q,NRow]<;>omega
  ·rw[List.getElem?_set_ne hij] at hj
   have b1:=h2 j e hj k hk
   rw[<- b1]
   iterate 8 rw[z2q,if_neg (by omega)]
 ·rcases List.mem_or_eq_of_mem_set hd with hd|rfl
  ·exact h.gen d hd
  ·exact h.gen c (List.mem_of_getElem? hi)
end
end Go.Burg
namespace Go.Proofs.YtgdmfledhhoedaaGreatDoor.S
set_option maxRecDepth 8000
open Go.ChangeShapes Go.WideShapes Go.ChangeAt Go.RowKit Go.Burg
variable {c:Cel Nd} {l:List (Cel Nd)} {b bx g i:Nat}
section
variable {kn:Int} {cd vl pt:ByteArray} {ya za:Option Addr} {yn yc zn zc:Nat} {pl di:Bool}
theorem set1_any (w:World) (h:CellsN 193 w g l) (hi:l[i]?=some c) (hx:w.heap[bx]?=some (.cells #[.int .i64 kn,.string cd,.string vl,.string pt,.slice ya yn yc,.slice za zn zc,.bool pl,.bool di] 104 (0,0))) :
 Calls Tryz.prog 97 #[.pointer (some ⟨g,i * 10,none⟩),.pointer (some ⟨bx,0,none⟩)] w fun e w'=>e=.returned (.tuple #[])/\CellsN 193 w' g (l.set i ⟨c.is,(⟨kn,cd,vl,pt,⟨ya,yn,yc⟩,⟨za,zn,zc⟩,pl,di⟩:Nd),c.gen⟩)/\Mod (·=g) w w':=by
 obtain⟨⟨c0,c1,c2,c3,c4,c5,c6,c7,c8,c9⟩,cf,g1,g2⟩:=h.cell hi
 have HP:=hid (h.put8 hi (⟨kn,cd,vl,pt,⟨ya,yn,yc⟩,⟨za,zn,zc⟩,pl,di⟩:Nd))
 have x0:=cell_of hx 0
 have x1:=cell_of hx 1
 have x2:=cell_of hx 2
 have x3:=cell_of hx 3
 have x4:=cell_of hx 4
 have x5:=cell_of hx 5
 have x6:=cell_of hx 6
 have x7:=cell_of hx 7
 obtain⟨is,x,gen⟩:=c
 simp only at c0 c1 c2 c3 c4 c5 c6 c7 c8 c9 g1 g2
 clear h hi hx c0 c9
 go_enter Tryz.func97,Tryz.ntmps97
 go_wp2
 go_end0
 refine⟨rfl,HP.out,?_⟩
 exact Mod.setCell (S:=(·=g)) (p:=⟨g,i * 10+8,none⟩) (Mod.setCell (S:=(·=g)) (p:=⟨g,i * 10+7,none⟩) (Mod.setCell (S:=(·=g)) (p:=⟨g,i * 10+6,none⟩) (Mod.setCell (S:=(·=g)) (p:=⟨g,i * 10+5,none⟩) (Mod.setCell (S:=(·=g)) (p:=⟨g,i * 10+4,none⟩) (Mod.setCell (S:=(·=g)) (p:=⟨g,i * 10+3,none⟩) (Mod.setCell (S:=(·=g)) (p:=⟨g,i * 10+2,none⟩) (Mod.setCell (S:=(·=g)) (p:=⟨g,i * 10+1,none⟩) (Mod.refl _ _) (.inl rfl) _) (.inl rfl) _) (.inl rfl) _) (.inl rfl) _) (.inl rfl) _) (.inl rfl) _) (.inl rfl) _) (.inl rfl) _
theorem turn_set (slot gen:Int) (w:World) (h:SlabN 193 150 w b g l) (hL:Live l slot gen i c) (hx:w.heap[bx]?=some (.cells #[.int .i64 kn,.string cd,.string vl,.string pt,.slice ya yn yc,.slice za zn zc,.bool pl,.bool di] 104 (0,0))) :
 Calls Tryz.prog 96 #[.pointer (some ⟨b,0,none⟩),.agg #[.int .i64 slot,.int .u32 gen],.func (.func 97) #[] #[.pointer (some ⟨bx,0,none⟩)]] w fun e w'=>e=.returned (.int .i64 0)/\CellsN 193 w' g (l.set i ⟨c.is,(⟨kn,cd,vl,pt,⟨ya,yn,yc⟩,⟨za,zn,zc⟩,pl,di⟩:Nd),c.gen⟩)/\Mod (·=g) w w':=by
 have hN:=z0a w (.cells #[.int .i64 slot,.int .u32 gen] 36 (0,0))
 have hA:=h.alloc (.cells #[.int .i64 slot,.int .u32 gen] 36 (0,0))
 have hbl:=h.blt
 have hgl:=h.glt
 go_enter Tryz.func96,Tryz.ntmps96
 go_wp2_with fail
 refine (there_any _ hA).mono ?_
 rintro e w1 ⟨rfl,hw1⟩
 have hS:=hA.keep hw1
 have hN2:=z0b hN hw1 (by simp)
 have hX2:=z0b (z0c hx) hw1 (by simp;have:=lt_of_block hx;omega)
 have hl2:=lt_of_block hN2
 have HB:Hid (Below w.heap.size w w1):=hid (((Below.refl _ _).alloc (Nat.le_refl _) _).trans (hw1.mono (by simp)))
 have hsz:=HB.out.size
 clear hw1 hA hN
 rename World=>wa
 go_wp2_with fail
 have HD:=hid (fun (w1:World) (hw1:Below wa.heap.size wa w1)=>at_live slot gen w1 (hS.keep hw1) hL)
 refine z0g 10 (fun w1=>Below (wa).heap.size (wa) w1) (by kernel_rfl) (by kernel_rfl) (by kernel_rfl) ⟨rfl,rfl,rfl,Nat.le_refl _,fun _ _=>rfl⟩ ?_
 dsimp only[List.take]
 iterate 10
  refine Seq.cons (a':=?_) ?_ ?_ ?_
  rotate_left
  ·intro w1 hw1
   have hS:=hS.keep hw1
   obtain⟨s0,sf⟩:=hS.head
   have hn:=z0b hN2 hw1 hl2
   have n0:=cell_of hn 0
   have n1:=cell_of hn 1
   go_wp2_with (go_at_call 95;refine (HD.out _ hw1).mono ?_;rintro e w' ⟨rfl,hb⟩)
   refine⟨?_,by first|assumption|(simpa using z0d hw1 hb hw1.size)⟩
   exact rfl
  ·kernel_rfl
 refine SeqI.nil ?_
 intro _ w1 _ hw1
 dsimp only[List.drop]
 have hM1:Mod (·=g) w w1:=Mod.z0j (HB.out.trans (hw1.mono hsz))
 have hC1:=(hS.keep hw1).hc
 have hX3:=z0b hX2 hw1 (lt_of_block hX2)
 go_wp2_with fail
 refine (set1_any _ hC1 hL.2.1 hX3).mono ?_
 rintro e w2 ⟨rfl,hC2,hM2⟩
 go_wp2
 go_ret
 exact⟨rfl,hC2,hM1.trans hM2 (fun _ _ h=>h)⟩
theorem set_live (slot gen:Int) (w:World) (h:SlabN 193 150 w b g l) (hL:Live l slot gen i c) :
 Calls Tryz.prog 68 #[.pointer (some ⟨b,0,none⟩),.agg #[.int .i64 slot,.int .u32 gen],.agg #[.int .i64 kn,.string cd,.string vl,.string pt,.slice ya yn yc,.slice za zn zc,.bool pl,.bool di]] w fun e w'=>e=.returned (.int .i64 0)/\SlabN 193 150 w' b g (l.set i ⟨c.is,(⟨kn,cd,vl,pt,⟨ya,yn,yc⟩,⟨za,zn,zc⟩,pl,di⟩:Nd),c.gen⟩)/\Mod (·=g) w w':=by
 have hmf:=makeF Tryz.prog
 have hA:=(h.alloc (.cells #[.int .i64 slot,.int .u32 gen] 36 (0,0))).alloc (.cells #[.int .i64 kn,.string cd,.string vl,.string pt,.slice ya yn yc,.slice za zn zc,.bool pl,.bool di] 104 (0,0))
 have hs1:(w.alloc (.cells #[.int .i64 slot,.int .u32 gen] 36 (0,0))).heap.size=w.heap.size+1:=by simp
 have hn:=z0c (o':=(.cells #[.int .i64 kn,.string cd,.string vl,.string pt,.slice ya yn yc,.slice za zn zc,.bool pl,.bool di] 104 (0,0))) (z0a w (.cells #[.int .i64 slot,.int .u32 gen] 36 (0,0)))
 have hx:=z0a (w.alloc (.cells #[.int .i64 slot,.int .u32 gen] 36 (0,0))) (.cells #[.int .i64 kn,.string cd,.string vl,.string pt,.slice ya yn yc,.slice za zn zc,.bool pl,.bool di] 104 (0,0))
 rw[hs1] at hx
 have n0:=cell_of hn 0
 have n1:=cell_of hn 1
 have hbl:=h.blt
 have hgl:=h.glt
 have H:=hid h
 clear hs1 h hn
 go_enter Tryz.func68,Tryz.ntmps68
 go_wp2_with fail
 refine (turn_set slot gen _ hA hL hx).mono ?_
 rintro e w1 ⟨rfl,hC,hM⟩
 go_wp2
 go_ret
 have hM1:=(((Mod.refl (·=g) w).alloc (.cells #[.int .i64 slot,.int .u32 gen] 36 (0,0))).alloc (.cells #[.int .i64 kn,.string cd,.string vl,.string pt,.slice ya yn yc,.slice za zn zc,.bool pl,.bool di] 104 (0,0))).trans hM (fun _ _ h=>h)
 exact⟨rfl,H.out.turn hC (by simp) hM1,hM1⟩
end
end Go.Proofs.YtgdmfledhhoedaaGreatDoor.S
namespace Go.Proofs.YtgdmfledhhoedaaGreatDoor.T
set_option maxRecDepth 8000
open Go.ChangeShapes Go.WideShapes Go.ChangeAt Go.RowKit Go.Burg
open Go.Burg.Lk
theorem st6 {w3:World} {u:Nat} {kn kn2:Int} {cd vl pt cd2 vl2 pt2:ByteArray} {ya za ya2 za2:Option Addr} {yn yc zn zc yn2 yc2 zn2 zc2:Nat} {pl di:Bool} (h:w3.heap[u]?=some (.cells #[.int .i64 kn,.string cd,.string vl,.string pt,.slice ya yn yc,.slice za zn zc,.bool pl,.bool di] 104 (0,0))) :
 ((((((w3.setCell ⟨u,0,none⟩ (.int .i64 kn2)).setCell ⟨u,1,none⟩ (.string cd2)).setCell ⟨u,2,none⟩ (.string vl2)).setCell ⟨u,3,none⟩ (.string pt2)).setCell ⟨u,4,none⟩ (.slice ya2 yn2 yc2)).setCell ⟨u,5,none⟩ (.slice za2 zn2 zc2)).heap[u]?=some (.cells #[.int .i64 kn2,.string cd2,.string vl2,.string pt2,.slice ya2 yn2 yc2,.slice za2 zn2 zc2,.bool pl,.bool di] 104 (0,0))/\Mod (·=u) w3 ((((((w3.setCell ⟨u,0,none⟩ (.int .i64 kn2)).setCell ⟨u,1,none⟩ (.string cd2)).setCell ⟨u,2,none⟩ (.string vl2)).setCell ⟨u,3,none⟩ (.string pt2)).setCell ⟨u,4,none⟩ (.slice ya2 yn2 yc2)).setCell ⟨u,5,none⟩ (.slice za2 zn2 zc2)):=by
 refine⟨z0y (cs:=#[.int .i64 kn2,.string cd2,.string vl2,.string pt2,.slice ya2 yn2 yc2,.slice za zn zc,.bool pl,.bool di]) (z0y (cs:=#[.int .i64 kn2,.string cd2,.string vl2,.string pt2,.slice ya yn yc,.slice za zn zc,.bool pl,.bool di]) (z0y (cs:=#[.int .i64 kn2,.string cd2,.string vl2,.string pt,.slice ya yn yc,.slice za zn zc,.bool pl,.bool di]) (z0y (cs:=#[.int .i64 kn2,.string cd2,.string vl,.string pt,.slice ya yn yc,.slice za zn zc,.bool pl,.bool di]) (z0y (cs:=#[.int .i64 kn2,.string cd,.string vl,.string pt,.slice ya yn yc,.slice za zn zc,.bool pl,.bool di]) (z0y h rfl) rfl) rfl) rfl) rfl) rfl,?_⟩
 have stp:∀ {A:World} (j:Nat) (v:Value),Mod (·=u) w3 A->Mod (·=u) w3 (A.setCell ⟨u,j,none⟩ v):=fun j v h=>Mod.setCell (S:=(·=u)) (p:=⟨u,j,none⟩) h (.inl rfl) v
 exact stp _ _ (stp _ _ (stp _ _ (stp _ _ (stp _ _ (stp _ _ (Mod.refl _ _))))))
set_option maxRecDepth 20000 in
set_option maxHeartbeats 8000000 in
theorem pset_at {t sb sg kb km i:Nat} {l:List (Cel Nd)} {L:List (RefK × Wd)} {tk:Int} {c:Cel Nd} (slot gen:Int) (kn2:Int) (cd2 vl2 pt2:ByteArray) (ya2 za2:Option Addr) (yn2 yc2 zn2 zc2:Nat) (w:World) (h:TreeAt w t sb sg kb km l L tk) (hL:S.Live l slot gen i c) :
 Calls Tryz.prog 33 #[.pointer (some ⟨t,0,none⟩),.agg #[.int .i64 slot,.int .u32 gen],.agg #[.int .i64 kn2,.string cd2,.string vl2,.string pt2,.slice ya2 yn2 yc2,.slice za2 zn2 zc2]] w fun e w'=>e=.returned (.tuple #[])/\TreeAt w' t sb sg kb km (l.set i ⟨c.is,(⟨kn2,cd2,vl2,pt2,⟨ya2,yn2,yc2⟩,⟨za2,zn2,zc2⟩,c.x.planted,c.x.died⟩:Nd),c.gen⟩) L tk/\Mod (·=sg) w w':=by
 have hN:=z0c (o':=(.cells #[.int .i64 kn2,.string cd2,.string vl2,.string pt2,.slice ya2 yn2 yc2,.slice za2 zn2 zc2] 102 (0,0))) (z0a w (.cells #[.int .i64 slot,.int .u32 gen] 36 (0,0)))
 have hZ:=z0a (w.alloc (.cells #[.int .i64 slot,.int .u32 gen] 36 (0,0))) (.cells #[.int .i64 kn2,.string cd2,.string vl2,.string pt2,.slice ya2 yn2 yc2,.slice za2 zn2 zc2] 102 (0,0))
 have hs1:(w.alloc (.cells #[.int .i64 slot,.int .u32 gen] 36 (0,0))).heap.size=w.heap.size+1:=by simp
 rw[hs1] at hZ
 have hA:=(h.alloc (.cells #[.int .i64 slot,.int .u32 gen] 36 (0,0))).alloc (.cells #[.int .i64 kn2,.string cd2,.string vl2,.string pt2,.slice ya2 yn2 yc2,.slice za2 zn2 zc2] 102 (0,0))
 have hB:Below w.heap.size w ((w.alloc (.cells #[.int .i64 slot,.int .u32 gen] 36 (0,0))).alloc (.cells #[.int .i64 kn2,.string cd2,.string vl2,.string pt2,.slice ya2 yn2 yc2,.slice za2 zn2 zc2] 102 (0,0))):=((Below.refl _ _).alloc (Nat.le_refl _) _).alloc (by simp) _
 obtain⟨is,⟨kn,cd,vl,pt,⟨ya,yn,yc⟩,⟨za,zn,zc⟩,pl,di⟩,gn⟩:=c
 have hlt:t<w.heap.size/\sb<w.heap.size/\sg<w.heap.size/\kb<w.heap.size/\km<w.heap.size:=⟨lt_of_block h.ht,h.hs.blt,h.hs.glt,h.hk.lt.1,h.hk.lt.2⟩
 clear hs1
 generalize hW:(w.alloc (.cells #[.int .i64 slot,.int .u32 gen] 36 (0,0))).alloc (.cells #[.int .i64 kn2,.string cd2,.string vl2,.string pt2,.slice ya2 yn2 yc2,.slice za2 zn2 zc2] 102 (0,0))=W at *
 have HW:=hid hW
 have HA:=hid hA
 have HN:=hid hN
 have HZ:=hid hZ
 have HB:=hid hB
 have HL:=hid hL
 have HLT:=hid hlt
 have HT:Hid (∀ w1,Below W.heap.size W w1->Calls Tryz.prog 67 #[.pointer (some ⟨sb,0,none⟩),.agg #[.int .i64 slot,.int .u32 gen]] w1 fun e w'=>e=.returned (.tuple #[.agg #[.int .i64 kn,.string cd,.string vl,.string pt,.slice ya yn yc,.slice za zn zc,.bool pl,.bool di],.bool true])/\Below w1.heap.size w1 w'):=hid (fun (w1:World) (hw1:Below W.heap.size W w1)=>S.get_live slot gen w1 (HA.out.keep hw1).hs hL)
 have c0:=cell_of HA.out.ht 0
 have n0:=cell_of HN.out 0
 have n1:=cell_of HN.out 1
 have l0:=lt_of_block HN.out
 have l1:=lt_of_block HA.out.ht
 have l2:=lt_of_block HZ.out
 clear hW hA hN hB hZ h hL hlt
 go_enter Tryz.func33,Tryz.ntmps33
 go_wp2_with fail
 rw[HW.out]
 go_region_with (go_at_call 67;refine (HT.out _ (by (repeat (first|exact Below.refl _ _|assumption|with_reducible refine Below.drew ?_|with_reducible refine below_drewN ?_|with_reducible refine Below.setCell ?_ (by first|(simp;done)|(simp;omega)) _|with_reducible refine Below.alloc ?_ (by first|exact Nat.le_refl _|(simp;done)|(simp;omega)) _)))).mono ?_;rintro e w2 ⟨rfl,hw2⟩;(try (have z:=(hw2.block W.heap.size (by simp)).trans (z0a W (.cells #[.int .i64 0,.string ⟨#[]⟩,.string ⟨#[]⟩,.string ⟨#[]⟩,.slice none 0 0,.slice none 0 0,.bool false,.bool false] 104 (0,0)));have z0:=cell_of z 0;have z1:=cell_of z 1;have z2:=cell_of z 2;have z3:=cell_of z 3;have z4:=cell_of z 4;have z5:=cell_of z 5;have z6:=cell_of z 6;have z7:=cell_of z 7;have zf:=z0e z));have HW2:Hid (Below W.heap.size W w2):=hid (z0d (by (repeat (first|exact Below.refl _ _|assumption|with_reducible refine Below.drew ?_|with_reducible refine below_drewN ?_|with_reducible refine Below.setCell ?_ (by first|(simp;done)|(simp;omega)) _|with_reducible refine Below.alloc ?_ (by first|exact Nat.le_refl _|(simp;done)|(simp;omega)) _))) hw2 (by first|exact Nat.le_refl _|(simp;done)|(simp;omega)));clear hw2)
 all_goals first|(have hmid:=nmidB (kn:=kn) (cd:=cd) (vl:=vl) (pt:=pt) (ya:=ya) (za:=za) (yn:=yn) (yc:=yc) (zn:=zn) (zc:=zc) (pl:=pl) (di:=di) HW2.out z;generalize hE:((((((((w2.setCell ⟨W.heap.size,0,none⟩ (.int .i64 kn)).setCell ⟨W.heap.size,1,none⟩ (.string cd)).setCell ⟨W.heap.size,2,none⟩ (.string vl)).setCell ⟨W.heap.size,3,none⟩ (.string pt)).setCell ⟨W.heap.size,4,none⟩ (.slice ya yn yc)).setCell ⟨W.heap.size,5,none⟩ (.slice za zn zc)).setCell ⟨W.heap.size,6,none⟩ (.bool pl)).setCell ⟨W.heap.size,7,none⟩ (.bool di))=w3 at hmid ⊢;generalize hEu:W.heap.size=u at hmid ⊢)|(have hmid:=nmidA (o:=(.cells #[.int .i64 kn,.string cd,.string vl,.string pt,.slice ya yn yc,.slice za zn zc,.bool pl,.bool di] 104 (0,0))) HW2.out;generalize hE:w2.alloc (.cells #[.int .i64 kn,.string cd,.string vl,.string pt,.slice ya yn yc,.slice za zn zc,.bool pl,.bool di] 104 (0,0))=w3 at hmid ⊢;generalize hEu:w2.heap.size=u at hmid ⊢)
 all_goals
  try clear z z0 z1 z2 z3 z4 z5 z6 z7 zf
  clear hE hEu HT c0 n0 n1 HW2
  obtain⟨hb3,hu,ho⟩:=hmid
  have y:=z0b HZ.out hb3 l2
  have hn:=z0b HN.out hb3 l0
  have ht:=z0b HA.out.ht hb3 l1
  have o0:=cell_of ho 0
  have o1:=cell_of ho 1
  have o2:=cell_of ho 2
  have o3:=cell_of ho 3
  have o4:=cell_of ho 4
  have o5:=cell_of ho 5
  have of:=z0e ho
  have y0:=cell_of y 0
  have y1:=cell_of y 1
  have y2:=cell_of y 2
  have y3:=cell_of y 3
  have y4:=cell_of y 4
  have y5:=cell_of y 5
  have hA3:=HA.out.keep hb3
  have HS6:=hid (st6 (kn2:=kn2) (cd2:=cd2) (vl2:=vl2) (pt2:=pt2) (ya2:=ya2) (yn2:=yn2) (yc2:=yc2) (za2:=za2) (zn2:=zn2) (zc2:=zc2) ho)
  have HY:=hid y
  have HN3:=hid hn
  have HT3:=hid ht
  have HA3:=hid hA3
  have HB3:=hid hb3
  have hWs:=HB.out.size
  clear y hn ht ho hb3 hA3 HN HZ HA
  go_wp2_with fail
  have hlt:=HLT.out
  obtain⟨hO4,hM34⟩:=HS6.out
  have hM4:Mod (·=u) w3 _:=hM34
  generalize ((((((w3.setCell ⟨u,0,none⟩ (.int .i64 kn2)).setCell ⟨u,1,none⟩ (.string cd2)).setCell ⟨u,2,none⟩ (.string vl2)).setCell ⟨u,3,none⟩ (.string pt2)).setCell ⟨u,4,none⟩ (.slice ya2 yn2 yc2)).setCell ⟨u,5,none⟩ (.slice za2 zn2 zc2))=w4 at *
  have hts:t≠sg:=HA3.out.ne.1
  have hns:w.heap.size≠sg:=by omega
  have hus:u≠sg:=by omega
  have HT4:=hid ((hM4.block t (lt_of_block HT3.out) (show ¬ t=u by omega)).trans HT3.out)
  have HN4:=hid ((hM4.block w.heap.size (lt_of_block HN3.out) (show ¬ w.heap.size=u by omega)).trans HN3.out)
  have HO4:=hid hO4
  have HA4:=hid (HA3.out.mod hM4 (show ¬ t=u by omega) (show ¬ sb=u by omega) (show ¬ sg=u by omega) (show ¬ kb=u by omega) (show ¬ km=u by omega))
  have HM4:Hid (Mod (·=sg) w w4):=hid ((Mod.z0j (S:=(·=sg)) (HB.out.trans (HB3.out.mono hWs))).trans hM4 (fun i hi e=>by have:i=u:=e;omega))
  clear hO4 hM34 hM4 HS6 o0 o1 o2 o3 o4 o5 of y0 y1 y2 y3 y4 y5
  refine z0f 7 (Turn 6 (fun w1=>Mod (·=sg) w4 w1/\SlabN 193 150 w1 sb sg l) (fun w1=>Mod (·=sg) w4 w1/\SlabN 193 150 w1 sb sg (l.set i ⟨is,(⟨kn2,cd2,vl2,pt2,⟨ya2,yn2,yc2⟩,⟨za2,zn2,zc2⟩,pl,di⟩:Nd),gn⟩))) (by kernel_rfl) (by kernel_rfl) (by kernel_rfl) (Turn.start ⟨(Mod.refl (·=sg) w4).drew,HA4.out.hs.same rfl rfl⟩) ?_
  dsimp only[List.take]
  iterate 6
   refine Seq.calm (a':=?_) (by decide) ?_ ?_ ?_
   rotate_left
   ·intro w1 hw1
    have hM:Mod (·=sg) w4 w1:=hw1.elim (·.1) (·.1)
    have ht:=(hM.block t (lt_of_block HT4.out) hts).trans HT4.out
    have hn:=(hM.block w.heap.size (lt_of_block HN4.out) hns).trans HN4.out
    have ho:=(hM.block u (lt_of_block HO4.out) hus).trans HO4.out
    have c0:=cell_of ht 0
    have n0:=cell_of hn 0
    have n1:=cell_of hn 1
    have o0:=cell_of ho 0
    have o1:=cell_of ho 1
    have o2:=cell_of ho 2
    have o3:=cell_of ho 3
    have o4:=cell_of ho 4
    have o5:=cell_of ho 5
    have o6:=cell_of ho 6
    have o7:=cell_of ho 7
    clear hM ht hn ho hw1
    go_wp2_with (fail)
    refine⟨?_,id,id⟩;exact rfl
   ·kernel_rfl
  refine Seq.turn (a':=?_) ?_ ?_ ?_
  rotate_left
  ·intro w1 hw1
   have HM:=hid hw1.1
   have HS1:=hid hw1.2
   clear hw1
   go_wp2_with (go_at_call 68;refine (S.set_live slot gen _ HS1.out HL.out).mono ?_;rintro e w2 ⟨rfl,hS,hX⟩)
   refine⟨?_,HM.out.trans hX (fun _ _ h=>h),hS⟩
   exact rfl
  ·kernel_rfl
  iterate 0
   refine Seq.calm (a':=?_) (by decide) ?_ ?_ ?_
   rotate_left
   ·intro w1 hw1
    have hM:Mod (·=sg) w4 w1:=hw1.elim (·.1) (·.1)
    have ht:=(hM.block t (lt_of_block HT4.out) hts).trans HT4.out
    have hn:=(hM.block w.heap.size (lt_of_block HN4.out) hns).trans HN4.out
    have ho:=(hM.block u (lt_of_block HO4.out) hus).trans HO4.out
    have c0:=cell_of ht 0
    have n0:=cell_of hn 0
    have n1:=cell_of hn 1
    have o0:=cell_of ho 0
    have o1:=cell_of ho 1
    have o2:=cell_of ho 2
    have o3:=cell_of ho 3
    have o4:=cell_of ho 4
    have o5:=cell_of ho 5
    have o6:=cell_of ho 6
    have o7:=cell_of ho 7
    clear hM ht hn ho hw1
    go_wp2_with (fail)
    refine⟨?_,id,id⟩;exact rfl
   ·kernel_rfl
  refine SeqI.nil ?_
  intro D w1 hD hI
  replace hI:=hI.done (hD 6 (by omega))
  clear hD
  dsimp only[List.drop]
  obtain⟨hM1,hS1⟩:=hI
  have HE:=hid (And.intro hM1 hS1)
  clear hM1 hS1
  go_wp2_with fail
  go_end0
  obtain⟨hM1,hS1⟩:=HE.out
  have hne:=HA4.out.ne
  exact⟨rfl,⟨(hM1.block t (lt_of_block HT4.out) hts).trans HT4.out,hS1,HA4.out.hk.mod hM1 hne.2.2.2.2.1 (fun e=>hne.2.2.2.2.2.2 e.symm)⟩,HM4.out.trans hM1 (fun _ _ h=>h)⟩
end Go.Proofs.YtgdmfledhhoedaaGreatDoor.T
namespace Go.Burg
open Go Go.RowKit
inductive PN
 | leaf (c v:ByteArray)
 | z0k (k:Nat) (pt:ByteArray) (L:List Kd)
structure PNd where
 n:PN
 planted:Bool
 died:Bool
def z0l (P:List (Cel PNd)) (slot gen:Int) (i:Nat) (q:PNd):Prop:=slot=i/\∃ p,P[i]?=some p/\p.is=true/\p.gen=gen/\p.x=q
theorem z0l.uniq {P:List (Cel PNd)} {s g:Int} {i j:Nat} {q q':PNd} (h:z0l P s g i q) (h':z0l P s g j q'):i=j/\q=q':=by
 obtain⟨e,p,h1,_,_,h4⟩:=h
 obtain⟨e',p',h1',_,_,h4'⟩:=h'
 have:i=j:=by omega
 subst this
 rw[h1] at h1'
 cases h1'
 exact⟨rfl,h4.symm.trans h4'⟩
def z1z (W:List (Int × Int)):List Value:=W.flatMap fun r=>[.int .i64 r.1,.int .u32 r.2]
theorem refsL_len:∀ W:List (Int × Int),(z1z W).length=W.length * 2
 | []=>rfl
 | r :: W=>by
  have:=refsL_len W
  simp only[z1z,List.flatMap_cons,List.length_append,List.length_cons,List.length_nil] at this ⊢
  omega
theorem refsL_app (A B:List (Int × Int)):z1z (A++B)=z1z A++z1z B:=by simp[z1z]
theorem refsL_get:∀ {W:List (Int × Int)} {i:Nat} {r:Int × Int},W[i]?=some r->(z1z W)[i * 2]?=some (.int .i64 r.1)/\(z1z W)[i * 2+1]?=some (.int .u32 r.2)
 | [],i,r,h=>by simp at h
 | a :: W,0,r,h=>by
  simp at h
  subst h
  exact⟨rfl,rfl⟩
 | a :: W,i+1,r,h=>by
  have:=refsL_get (W:=W) (i:=i) (by simpa using h)
  rw[show (i+1) * 2=i * 2+2 by omega]
  simpa[z1z] using this
theorem kidsL_refs (L:List Kd):z2v L=z1z (L.map fun k=>(k.s,k.g)):=by
 induction L with
 | nil=>rfl
 | cons k L ih=>simp only[z2v,z1z,List.map_cons,List.flatMap_cons] at ih ⊢;rw[ih]
end Go.Burg
namespace Go.Proofs.YtgdmfledhhoedaaGreatDoor.T
set_option maxRecDepth 8000
open Go.ChangeShapes Go.WideShapes Go.ChangeAt Go.RowKit Go.Burg
open Go.Burg.Lk
def NdIs (w:World) (x:Nd):PN->Prop
 | .leaf c v=>x.kind=1/\x.code=c/\x.value=v/\x.path=⟨#[]⟩/\x.bytes=⟨none,0,0⟩/\x.kids=⟨none,0,0⟩
 | .z0k k pt L=>x.kind=k/\x.code=⟨#[]⟩/\x.value=⟨#[]⟩/\x.path=pt/\O.NodeIn w k pt x.bytes.a x.bytes.n x.bytes.c x.kids.a x.kids.n x.kids.c L/\O.MayB k L.length pt
structure Rel (w:World) (l:List (Cel Nd)) (P:List (Cel PNd)):Prop where
 len:l.length=P.length
 at_:∀ (i:Nat) (c:Cel Nd),l[i]?=some c->∃ p:Cel PNd,P[i]?=some p/\p.is=c.is/\p.gen=c.gen/\(c.is=true->p.x.planted=c.x.planted/\p.x.died=c.x.died/\NdIs w c.x p.x.n)
def NoRow (w:World) (k:Nat):Prop:=∀ cs T fr,w.heap[k]?=some (.cells cs T fr)->T≠5/\T≠36
section
variable {w w':World} {l:List (Cel Nd)} {P:List (Cel PNd)} {x:Nd} {n:PN}
theorem own_not {e:TypeId} {s n k:Nat} {v:Value} {xs:List Value} (h:w.ownsRow 0 e s v n xs) (he:e=5\/e=36) (hk:v.ownBlock=some k):¬ NoRow w k:=by
 intro hn
 obtain⟨_,⟨rfl,_⟩|⟨g,cap,cur,rfl,_,hg,_⟩⟩:=h
 ·simp[Value.ownBlock] at hk
 ·simp only[Value.ownBlock,Option.some.injEq] at hk
  subst hk
  have:=hn _ _ _ hg
  rcases he with rfl|rfl
  ·exact this.1 rfl
  ·exact this.2 rfl
theorem NdIs.mod {S:Nat->Prop} (h:NdIs w x n) (hM:Mod S w w') (hS:∀ k,S k->NoRow w k):NdIs w' x n:=by
 cases n with
 | leaf c v=>exact h
 | z0k k pt L =>
  obtain⟨h1,h2,h3,h4,h5,h6⟩:=h
  exact⟨h1,h2,h3,h4,⟨O.z0h h5.b hM (fun k hk hs=>own_not h5.b (.inl rfl) hk (hS k hs)),O.z0h h5.z hM (fun k hk hs=>own_not h5.z (.inr rfl) hk (hS k hs)),h5.k1,h5.k2,h5.p,h5.len,h5.rise,h5.ok⟩,h6⟩
theorem NdIs.keep (h:NdIs w x n) (hb:Below w.heap.size w w'):NdIs w' x n:=by
 cases n with
 | leaf c v=>exact h
 | z0k k pt L =>
  obtain⟨h1,h2,h3,h4,h5,h6⟩:=h
  exact⟨h1,h2,h3,h4,h5.keep hb,h6⟩
theorem Rel.mod {S:Nat->Prop} (h:Rel w l P) (hM:Mod S w w') (hS:∀ k,S k->NoRow w k):Rel w' l P :=
 ⟨h.len,fun i c hc=>by
  obtain⟨p,h1,h2,h3,h4⟩:=h.at_ i c hc
  exact⟨p,h1,h2,h3,fun hi=>⟨(h4 hi).1,(h4 hi).2.1,(h4 hi).2.2.mod hM hS⟩⟩⟩
theorem Rel.keep (h:Rel w l P) (hb:Below w.heap.size w w'):Rel w' l P :=
 ⟨h.len,fun i c hc=>by
  obtain⟨p,h1,h2,h3,h4⟩:=h.at_ i c hc
  exact⟨p,h1,h2,h3,fun hi=>⟨(h4 hi).1,(h4 hi).2.1,(h4 hi).2.2.keep hb⟩⟩⟩
theorem Rel.live (h:Rel w l P) {s g:Int} {i:Nat} {q:PNd} (hq:z0l P s g i q):∃ c,S.Live l s g i c/\c.x.planted=q.planted/\c.x.died=q.died/\NdIs w c.x q.n:=by
 obtain⟨e,p,h1,h2,h3,h4⟩:=hq
 have hi:i<l.length:=by rw[h.len];exact (List.getElem?_eq_some_iff.1 h1).1
 have hl:l[i]?=some l[i]:=List.getElem?_eq_getElem hi
 obtain⟨p',g1,g2,g3,g4⟩:=h.at_ i _ hl
 rw[h1] at g1
 cases g1
 obtain⟨a1,a2,a3⟩:=g4 (g2.symm.trans h2)
 subst h4
 exact⟨l[i],⟨e,hl,g2.symm.trans h2,g3.symm.trans h3⟩,a1.symm,a2.symm,a3⟩
theorem Rel.set (h:Rel w l P) {i:Nat} {x:Nd} {q:PNd} {g:Int} (is:Bool) (hx:is=true->q.planted=x.planted/\q.died=x.died/\NdIs w x q.n):Rel w (l.set i ⟨is,x,g⟩) (P.set i ⟨is,q,g⟩):=by
 refine⟨by simp[h.len],fun j c hj=>?_⟩
 by_cases hij:i=j
 ·subst hij
  have hi:i<l.length:=by
   have:=(List.getElem?_eq_some_iff.1 hj).1
   simpa using this
  rw[List.getElem?_set_self hi] at hj
  cases hj
  exact⟨⟨is,q,g⟩,List.getElem?_set_self (by rw[<- h.len];exact hi),rfl,rfl,hx⟩
 ·rw[List.getElem?_set_ne hij] at hj
  obtain⟨p,h1,h2⟩:=h.at_ j c hj
  exact⟨p,by rw[List.getElem?_set_ne hij];exact h1,h2⟩
theorem Rel.first (h:Rel w l P) {r:Int} (hf:z2s P r):z2s l r:=by
 have key:∀ (i:Nat) (c:Cel Nd) (p:Cel PNd),l[i]?=some c->P[i]?=some p->c.room=p.room:=fun i c p hc hp=>by
  obtain⟨p',h1,h2,h3,_⟩:=h.at_ i c hc
  rw[hp] at h1
  cases h1
  unfold Cel.room
  rw[h2,h3]
 have get:∀ (i:Nat) (p:Cel PNd),P[i]?=some p->∃ c,l[i]?=some c:=fun i p hp=>⟨_,List.getElem?_eq_getElem (by rw[h.len];exact (List.getElem?_eq_some_iff.1 hp).1)⟩
 have get2:∀ (i:Nat) (c:Cel Nd),l[i]?=some c->∃ p,P[i]?=some p:=fun i c hc=>by obtain⟨p,h1,_⟩:=h.at_ i c hc;exact⟨p,h1⟩
 rcases hf with ⟨k,p,rfl,h1,h2,h3⟩|⟨rfl,h3⟩
 ·obtain⟨c,hc⟩:=get k p h1
  refine .inl ⟨k,c,rfl,hc,(key k c p hc h1).trans h2,fun j hj d hd=>?_⟩
  obtain⟨pd,hpd⟩:=get2 j d hd
  exact (key j d pd hd hpd).trans (h3 j hj pd hpd)
 ·refine .inr ⟨rfl,fun j d hd=>?_⟩
  obtain⟨pd,hpd⟩:=get2 j d hd
  exact (key j d pd hd hpd).trans (h3 j pd hpd)
end
def z0s (w:World) (t sb sg kb km:Nat) (P:List (Cel PNd)) (L:List (RefK × Wd)) (tk:Int):Prop:=∃ l,TreeAt w t sb sg kb km l L tk/\Rel w l P
section
variable {w w':World} {t sb sg kb km:Nat} {l:List (Cel Nd)} {P:List (Cel PNd)} {L:List (RefK × Wd)} {tk:Int}
theorem z0s.keep (h:z0s w t sb sg kb km P L tk) (hb:Below w.heap.size w w'):z0s w' t sb sg kb km P L tk:=by
 obtain⟨l,h1,h2⟩:=h
 exact⟨l,h1.keep hb,h2.keep hb⟩
theorem TreeAt.noRow (h:TreeAt w t sb sg kb km l L tk):∀ k,TOwn sg km k->NoRow w k:=by
 rintro k (rfl|rfl) cs T fr hk
 ·obtain⟨cs',h1,_⟩:=h.hs.hc.hg
  rw[h1] at hk
  cases hk
  exact⟨by decide,by decide⟩
 ·obtain⟨es,c,hm,_⟩:=h.hk.2
  rw[hm] at hk
  cases hk
end
end Go.Proofs.YtgdmfledhhoedaaGreatDoor.T
namespace Go.Burg
open Go Go.RowKit
def comL:List UInt8->List UInt8->Nat
 | x :: l,y :: m=>if x=y then comL l m+1 else 0
 | _,_=>0
theorem comL_le1:∀ (l m:List UInt8),comL l m<=l.length
 | x :: l,[]=>by simp[comL]
 | x :: l,y :: m=>by
  have:=comL_le1 l m
  unfold comL
  split<;>simp<;>omega
 | [],m=>by simp[comL]
theorem comL_le2:∀ (l m:List UInt8),comL l m<=m.length
 | x :: l,[]=>by simp[comL]
 | x :: l,y :: m=>by
  have:=comL_le2 l m
  unfold comL
  split<;>simp<;>omega
 | [],m=>by simp[comL]
theorem comL_alike:∀ (l m:List UInt8) (j:Nat),j<comL l m->∃ x,l[j]?=some x/\m[j]?=some x
 | x :: l,y :: m,j,h=>by
  unfold comL at h
  split at h
  ·rename_i e
   subst e
   cases j with
   | zero=>exact⟨x,rfl,rfl⟩
   | succ j =>
    obtain⟨z,h1,h2⟩:=comL_alike l m j (by omega)
    exact⟨z,by simpa using h1,by simpa using h2⟩
  ·omega
 | [],m,j,h=>by simp[comL] at h
 | x :: l,[],j,h=>by simp[comL] at h
theorem comL_end:∀ (l m:List UInt8) (x y:UInt8),l[comL l m]?=some x->m[comL l m]?=some y->x≠y
 | a :: l,b :: m,x,y,h1,h2=>by
  unfold comL at h1 h2
  split at h1
  ·rename_i e
   rw[if_pos e] at h2
   exact comL_end l m x y (by simpa using h1) (by simpa using h2)
  ·rename_i e
   rw[if_neg e] at h2
   simp at h1 h2
   subst h1 h2
   exact e
 | [],m,x,y,h1,h2=>by simp[comL] at h1
 | a :: l,[],x,y,h1,h2=>by simp[comL] at h2
variable {n:Nat}
theorem comL_at {l m:List UInt8} (h1:∀ j,j<n->∃ x,l[j]?=some x/\m[j]?=some x) (h2:∀ x y,l[n]?=some x->m[n]?=some y->x≠y):n=comL l m:=by
 rcases Nat.lt_trichotomy n (comL l m) with h|h|h
 ·obtain⟨x,e1,e2⟩:=comL_alike l m n h
  exact absurd rfl (h2 x x e1 e2)
 ·exact h
 ·obtain⟨x,e1,e2⟩:=h1 _ h
  exact absurd rfl (comL_end l m x x e1 e2)
def byt (a:ByteArray):List UInt8:=a.data.toList
theorem z1b (a:ByteArray):(byt a).length=a.size:=Array.length_toList
def com (a b:ByteArray):Nat:=comL (byt a) (byt b)
theorem com_le1 (a b:ByteArray):com a b<=a.size:=by rw[<- z1b];exact comL_le1 _ _
theorem com_le2 (a b:ByteArray):com a b<=b.size:=by rw[<- z1b];exact comL_le2 _ _
theorem byt_get {a:ByteArray} (h:n<a.size):(byt a)[n]?=some (a[n]'h):=by
 have h2:n<(byt a).length:=by rw[z1b];exact h
 rw[List.getElem?_eq_getElem h2]
 simp[byt,ByteArray.getElem_eq_getElem_data]
theorem run_byte {P:Program} (w:World) (t:TypeId) (s:ByteArray) (n:Nat) (x:UInt8) (h:P.underlying t=some .string) (hx:(byt s)[n]?=some x) :
 (Instr.index t (.string s) (.int .i64 n)).run P w=.ok (.int .u8 (x.toNat:Int)) w:=by
 have h2:n<s.size:=by
  have:=(List.getElem?_eq_some_iff.1 hx).1
  rwa [z1b] at this
 rw[run_index_string w t s .i64 n h,dif_pos ⟨by omega,by omega⟩]
 rw[byt_get h2] at hx
 cases hx
 simp
end Go.Burg
namespace Go.Proofs.YtgdmfledhhoedaaGreatDoor.P
set_option maxRecDepth 8000
open Go.ChangeShapes Go.WideShapes Go.ChangeAt Go.RowKit Go.Burg
section
variable {a b:ByteArray} {n:Nat}
theorem has_at (w:World):Calls Tryz.prog 100 #[(.agg #[.string a]),.int .i64 n] w fun e w'=>e=.returned (.bool (decide (n<a.size)))/\Below w.heap.size w w':=by
 have d1:decide ((n:Int)>=0)=true:=by simp
 by_cases h:n<a.size
 ·have d2:decide ((n:Int)<a.size)=true:=by simp;exact h
  have e:decide (n<a.size)=true:=by simp;exact h
  rw[e]
  go_enter Tryz.func100,Tryz.ntmps100
  go_wp2
  go_ret
  exact⟨by first|rfl|simp[*],by first|exact Below.refl _ _|(with_reducible refine Below.alloc ?_ (by first|exact Nat.le_refl _|(simp;done)|(simp;omega)) _;first|exact Below.refl _ _|assumption)⟩
 ·have d2:decide ((n:Int)<a.size)=false:=by simp;omega
  have e:decide (n<a.size)=false:=by simp;omega
  rw[e]
  go_enter Tryz.func100,Tryz.ntmps100
  go_wp2
  go_ret
  exact⟨by first|rfl|simp[*],by first|exact Below.refl _ _|(with_reducible refine Below.alloc ?_ (by first|exact Nat.le_refl _|(simp;done)|(simp;omega)) _;first|exact Below.refl _ _|assumption)⟩
theorem to_at (w:World) (h:n<=a.size):Calls Tryz.prog 101 #[(.agg #[.string a]),.int .i64 n] w fun e w'=>e=.returned (.string (a.extract 0 n))/\Below w.heap.size w w':=by
 go_enter Tryz.func101,Tryz.ntmps101
 go_wp2
 go_ret
 exact⟨by first|rfl|simp[*],by first|exact Below.refl _ _|(with_reducible refine Below.alloc ?_ (by first|exact Nat.le_refl _|(simp;done)|(simp;omega)) _;first|exact Below.refl _ _|assumption)⟩
theorem from_at (w:World) (h:n<=a.size):Calls Tryz.prog 102 #[(.agg #[.string a]),.int .i64 n] w fun e w'=>e=.returned (.string (a.extract n a.size))/\Below w.heap.size w w':=by
 go_enter Tryz.func102,Tryz.ntmps102
 go_wp2
 go_ret
 exact⟨by first|rfl|simp[*],by first|exact Below.refl _ _|(with_reducible refine Below.alloc ?_ (by first|exact Nat.le_refl _|(simp;done)|(simp;omega)) _;first|exact Below.refl _ _|assumption)⟩
end
end Go.Proofs.YtgdmfledhhoedaaGreatDoor.P
namespace Go.Burg
open Go Go.RowKit
def alike (a b:ByteArray) (n:Nat):Bool:=match (byt a)[n]?,(byt b)[n]? with
 | some x,some y=>x == y
 | _,_=>false
variable {a b:ByteArray} {n:Nat}
theorem alike_no1 (h:a.size<=n):alike a b n=false:=by
 have e:(byt a)[n]?=none:=List.getElem?_eq_none (by rw[z1b];exact h)
 simp[alike,e]
theorem alike_no2 (h:b.size<=n):alike a b n=false:=by
 have e:(byt b)[n]?=none:=List.getElem?_eq_none (by rw[z1b];exact h)
 unfold alike
 rw[e]
 cases (byt a)[n]?<;>rfl
theorem u8_eq (x y:UInt8):((x.toNat:Int) == (y.toNat:Int))=(x == y):=by
 by_cases h:x=y
 ·subst h;exact (beq_self_eq_true _).trans (beq_self_eq_true _).symm
 ·have h2:¬ ((x.toNat:Int)=(y.toNat:Int)):=fun e=>h (UInt8.toNat_inj.1 (by omega))
  exact (beq_false_of_ne h2).trans (beq_false_of_ne h).symm
end Go.Burg
namespace Go.Proofs.YtgdmfledhhoedaaGreatDoor.P
set_option maxRecDepth 8000
open Go.ChangeShapes Go.WideShapes Go.ChangeAt Go.RowKit Go.Burg
section
variable {a b:ByteArray} {n A:Nat}
theorem z0b {w w1:World} {B b:Nat} {o:Obj} (h:w.heap[b]?=some o) (hb:Below B w w1) (hB:b<B):w1.heap[b]?=some o:=(hb.block b hB).trans h
set_option maxHeartbeats 1000000 in
theorem common1_at (w:World) (h:w.heap[A]?=some (.cells #[.string a,.string b] 198 (0,0))):Calls Tryz.prog 115 #[.int .i64 n,.pointer (some ⟨A,0,none⟩)] w fun e w'=>e=.returned (.bool (alike a b n))/\Below w.heap.size w w':=by
 have H:=hid h
 clear h
 by_cases h1:n<a.size
 ·have HE:=hid (show decide (n<a.size)=true by simp;exact h1)
  by_cases h2:n<b.size
  ·have d2:decide ((n:Int)<b.size)=true:=by simp;exact h2
   have ex:=byt_get h1
   have ey:=byt_get h2
   generalize a[n]=x at ex
   generalize b[n]=y at ey
   have r1:∀ w,(Instr.index 9 (.string a) (.int .i64 n)).run Tryz.prog w=.ok (.int .u8 (x.toNat:Int)) w:=fun w=>run_byte w _ a n x (by kernel_rfl) ex
   have r2:∀ w,(Instr.index 9 (.string b) (.int .i64 n)).run Tryz.prog w=.ok (.int .u8 (y.toNat:Int)) w:=fun w=>run_byte w _ b n y (by kernel_rfl) ey
   have e:alike a b n=((x.toNat:Int) == (y.toNat:Int)):=by rw[u8_eq];unfold alike;rw[ex,ey]
   rw[e]
   clear ex ey e h1 d2
   go_enter Tryz.func115,Tryz.ntmps115
   go_wp2_with fail
   refine z0g 24 (fun w1=>Below (w).heap.size (w) w1) (by kernel_rfl) (by kernel_rfl) (by kernel_rfl) ⟨rfl,rfl,rfl,Nat.le_refl _,fun _ _=>rfl⟩ ?_
   dsimp only[List.take]
   iterate 24
    refine Seq.cons (a':=?_) ?_ ?_ ?_
    rotate_left
    ·intro w1 hw1
     have a0:=cell_of (z0b H.out hw1 (lt_of_block H.out)) 0;have a1:=cell_of (z0b H.out hw1 (lt_of_block H.out)) 1
     go_wp2_with (go_at_call 100;refine (has_at _).mono ?_;rintro e w' ⟨rfl,hb⟩;rw[HE.out] at *)
     refine⟨?_,by first|assumption|(simpa using z0d hw1 hb hw1.size)⟩
     exact rfl
    ·kernel_rfl
   refine SeqI.nil ?_
   intro _ w1 _ hw1
   dsimp only[List.drop]
   go_wp2_with fail
   go_ret
   exact⟨by first|rfl|simp[*],hw1⟩
  ·rw[alike_no2 (by omega)]
   go_enter Tryz.func115,Tryz.ntmps115
   go_wp2_with fail
   refine z0g 24 (fun w1=>Below (w).heap.size (w) w1) (by kernel_rfl) (by kernel_rfl) (by kernel_rfl) ⟨rfl,rfl,rfl,Nat.le_refl _,fun _ _=>rfl⟩ ?_
   dsimp only[List.take]
   iterate 24
    refine Seq.cons (a':=?_) ?_ ?_ ?_
    rotate_left
    ·intro w1 hw1
     have a0:=cell_of (z0b H.out hw1 (lt_of_block H.out)) 0;have a1:=cell_of (z0b H.out hw1 (lt_of_block H.out)) 1
     go_wp2_with (go_at_call 100;refine (has_at _).mono ?_;rintro e w' ⟨rfl,hb⟩;rw[HE.out] at *)
     refine⟨?_,by first|assumption|(simpa using z0d hw1 hb hw1.size)⟩
     exact rfl
    ·kernel_rfl
   refine SeqI.nil ?_
   intro _ w1 _ hw1
   dsimp only[List.drop]
   go_wp2_with fail
   go_ret
   exact⟨by first|rfl|simp[*],hw1⟩
 ·have HE:=hid (show decide (n<a.size)=false by simp;omega)
  rw[alike_no1 (by omega)]
  go_enter Tryz.func115,Tryz.ntmps115
  go_wp2_with fail
  refine z0g 24 (fun w1=>Below (w).heap.size (w) w1) (by kernel_rfl) (by kernel_rfl) (by kernel_rfl) ⟨rfl,rfl,rfl,Nat.le_refl _,fun _ _=>rfl⟩ ?_
  dsimp only[List.take]
  iterate 24
   refine Seq.cons (a':=?_) ?_ ?_ ?_
   rotate_left
   ·intro w1 hw1
    have a0:=cell_of (z0b H.out hw1 (lt_of_block H.out)) 0;have a1:=cell_of (z0b H.out hw1 (lt_of_block H.out)) 1
    go_wp2_with (go_at_call 100;refine (has_at _).mono ?_;rintro e w' ⟨rfl,hb⟩;rw[HE.out] at *)
    refine⟨?_,by first|assumption|(simpa using z0d hw1 hb hw1.size)⟩
    exact rfl
   ·kernel_rfl
  refine SeqI.nil ?_
  intro _ w1 _ hw1
  dsimp only[List.drop]
  go_wp2_with fail
  go_ret
  exact⟨by first|rfl|simp[*],hw1⟩
end
end Go.Proofs.YtgdmfledhhoedaaGreatDoor.P
namespace Go.Burg
open Go Go.RowKit
variable {a b:ByteArray} {n:Nat}
theorem alike_com (h:∀ j,j<n->alike a b j=true) (h2:alike a b n=false):n=com a b:=by
 refine comL_at (fun j hj=>?_) (fun x y hx hy=>?_)
 ·have:=h j hj
  unfold alike at this
  split at this
  ·rename_i x y hx hy
   have e:=eq_of_beq this
   subst e
   exact⟨x,hx,hy⟩
  ·cases this
 ·intro e
  subst e
  unfold alike at h2
  rw[hx,hy] at h2
  simp at h2
theorem alike_lt (h:alike a b n=true):n<a.size:=by
 rcases Nat.lt_or_ge n a.size with h1|h1
 ·exact h1
 ·rw[alike_no1 h1] at h;cases h
end Go.Burg
namespace Go.Proofs.YtgdmfledhhoedaaGreatDoor.P
set_option maxRecDepth 8000
open Go.ChangeShapes Go.WideShapes Go.ChangeAt Go.RowKit Go.Burg
section
variable {a b:ByteArray} {n A:Nat}
set_option maxHeartbeats 1000000 in
theorem common_at (w:World) (ha:a.size<=100000):Calls Tryz.prog 94 #[.agg #[.string a,.string b]] w fun e w'=>e=.returned (.int .i64 (com a b))/\Below w.heap.size w w':=by
 have hmf:=makeF Tryz.prog
 have h0:=z0a w (.cells #[.string a,.string b] 198 (0,0))
 have hB:Below w.heap.size w (w.alloc (.cells #[.string a,.string b] 198 (0,0))):=(Below.refl _ _).alloc (Nat.le_refl _) _
 go_enter Tryz.func94,Tryz.ntmps94
 go_wp2_with fail
 generalize w.alloc (.cells #[.string a,.string b] 198 (0,0))=W at *
 generalize hu:w.heap.size=u at *
 have HB:=hid hB
 have H0:=hid h0
 have HA:=hid ha
 clear hB h0 ha
 go_loopw [4] (fun iv wr=>∃ k:Nat,k<=a.size/\iv=.int .i64 k/\(∀ j,j<k->alike a b j=true)/\Below W.heap.size W wr) (fun iv _=>a.size - (intOf iv).toNat)
 case atStart=>exact⟨0,Nat.zero_le _,rfl,fun j hj=>absurd hj (Nat.not_lt_zero _),Below.refl _ _⟩
 case round =>
  obtain⟨k,hk,rfl,hall,hb⟩:=hrel
  have HC:=hid (common1_at (n:=k) wr ((hb.block u (lt_of_block H0.out)).trans H0.out))
  have HBB:=hid hb
  have HALL:=hid hall
  clear hb hall
  cases hal:alike a b k
  ·rw[hal] at HC
   go_wp2_with (go_at_call 115;refine HC.out.mono ?_;rintro e w2 ⟨rfl,hb2⟩;have HB2:=hid hb2;clear hb2)
   go_ret
   refine⟨?_,by rw[hu];exact HB.out.trans ((HBB.out.trans (HB2.out.mono HBB.out.size)).mono (by have:=HB.out.size;omega))⟩
   rw[<- alike_com HALL.out hal]
   rfl
  ·rw[hal] at HC
   have hlt:=alike_lt hal
   have ha1:=HA.out
   go_wp2_with (go_at_call 115;refine HC.out.mono ?_;rintro e w2 ⟨rfl,hb2⟩;have HB2:=hid hb2;clear hb2)
   go_roundw
   case rel=>exact⟨k+1,by omega,by go_num,fun j hj=>by
    rcases Nat.lt_succ_iff_lt_or_eq.1 hj with h|rfl
    ·exact HALL.out j h
    ·exact hal,HBB.out.trans (HB2.out.mono HBB.out.size)⟩
   case measure=>simp[intOf];omega
theorem Common_at (w:World) (ha:a.size<=100000):Calls Tryz.prog 65 #[.string a,.string b] w fun e w'=>e=.returned (.int .i64 (com a b))/\Below w.heap.size w w':=by
 have HC:=hid (common_at (b:=b) w ha)
 go_enter Tryz.func65,Tryz.ntmps65
 go_wp2_with (go_at_call 94;refine HC.out.mono ?_;rintro e w2 ⟨rfl,hb2⟩;have HB2:=hid hb2;clear hb2)
 go_ret
 exact⟨rfl,HB2.out⟩
end
section
variable {a b:ByteArray} {n A:Nat}
set_option maxHeartbeats 1000000 in
theorem Cut_at (w:World) (x:UInt8) (hx:(byt a)[n]?=some x) (ha:a.size<=100000):Calls Tryz.prog 71 #[.string a,.int .i64 n] w fun e w'=>e=.returned (.tuple #[.string (a.extract 0 n),.int .u8 x.toNat,.string (a.extract (n+1) a.size),.bool true])/\Below w.heap.size w w':=by
 have hlt:n<a.size:=by
  have:=(List.getElem?_eq_some_iff.1 hx).1
  rwa [z1b] at this
 have r1:∀ w,(Instr.index 9 (.string a) (.int .i64 n)).run Tryz.prog w=.ok (.int .u8 (x.toNat:Int)) w:=fun w=>run_byte w _ a n x (by kernel_rfl) hx
 have HH:=hid (fun w=>has_at (a:=a) (n:=n) w)
 have HD:decide (n<a.size)=true:=by simp;exact hlt
 rw[HD] at HH
 have HT:=hid (fun w=>to_at (a:=a) (n:=n) w (by omega))
 have HF:=hid (fun w=>from_at (a:=a) (n:=n+1) w (by omega))
 have h0:=z0a w (.cells #[.string a] 196 (0,0))
 have hB:Below w.heap.size w (w.alloc (.cells #[.string a] 196 (0,0))):=(Below.refl _ _).alloc (Nat.le_refl _) _
 clear hx HD
 go_enter Tryz.func71,Tryz.ntmps71
 go_wp2_with fail
 generalize w.alloc (.cells #[.string a] 196 (0,0))=W at *
 generalize hu:w.heap.size=u at *
 have HB:=hid hB
 have H0:=hid h0
 clear hB h0
 have a0:=cell_of H0.out 0
 go_wp2_with (go_at_call 100;refine (HH.out _).mono ?_;rintro e w2 ⟨rfl,hb2⟩)
 have H2:=hid ((hb2.block u (lt_of_block H0.out)).trans H0.out)
 clear a0
 refine z0g 14 (fun w1=>Below (w2).heap.size (w2) w1) (by kernel_rfl) (by kernel_rfl) (by kernel_rfl) ⟨rfl,rfl,rfl,Nat.le_refl _,fun _ _=>rfl⟩ ?_
 dsimp only[List.take]
 iterate 14
  refine Seq.cons (a':=?_) ?_ ?_ ?_
  rotate_left
  ·intro w1 hw1
   have a0:=cell_of (z0b H2.out hw1 (lt_of_block H2.out)) 0
   go_wp2_with ((first|(go_at_call 101;refine (HT.out _).mono ?_;rintro e w' ⟨rfl,hb⟩)|(go_at_call 102;refine (HF.out _).mono ?_;rintro e w' ⟨rfl,hb⟩)))
   refine⟨?_,by first|assumption|(simpa using z0d hw1 hb hw1.size)⟩
   exact rfl
  ·kernel_rfl
 refine SeqI.nil ?_
 intro _ w1 _ hw1
 dsimp only[List.drop]
 go_wp2_with fail
 refine bodyPost_ret (v:=.tuple #[_,_,_,_]) (by simp[results,Tryz.results71,go_sem]) rfl ⟨rfl,?_⟩
 have h1:=hb2.trans (hw1.mono hb2.size)
 rw[hu];exact HB.out.trans (h1.mono (by have:=HB.out.size;omega))
end
end Go.Proofs.YtgdmfledhhoedaaGreatDoor.P
