/- Part 13 of 27. -/
import Derived.Test.YtgdmfledhhoedaaGreatDoorD12
import Derived.Test.YtgdmfledhhoedaaGreatDoorD02
import Derived.Test.YtgdmfledhhoedaaGreatDoorD01
import Derived.Test.YtgdmfledhhoedaaGreatDoorD08
import Derived.Laws.ResultCell
namespace Go.Proofs.YtgdmfledhhoedaaGreatDoor.T
set_option maxRecDepth 8000
open Go.ChangeShapes Go.WideShapes Go.ChangeAt Go.RowKit Go.Burg
open Go.Burg.Lk
def z2k (s:SpotP) (g wc k:Nat):Value:=.slice (some ⟨g,(s.way.length - k) * 2,none⟩) k (wc - (s.way.length - k))
theorem set3_at {T:TypeId} {w:World} {c:Nat} {a0 a1 a2:Value} (b0 b1 b2:Value) (h:w.heap[c]?=some (.cells #[a0,a1,a2] T (0,0))) :
 (((w.setCell ⟨c,0,none⟩ b0).setCell ⟨c,1,none⟩ b1).setCell ⟨c,2,none⟩ b2).heap[c]?=some (.cells #[b0,b1,b2] T (0,0))/\Mod (·=c) w (((w.setCell ⟨c,0,none⟩ b0).setCell ⟨c,1,none⟩ b1).setCell ⟨c,2,none⟩ b2):=by
 have stp:∀ {A:World} (j:Nat) (v:Value),Mod (·=c) w A->Mod (·=c) w (A.setCell ⟨c,j,none⟩ v):=fun j v h=>Mod.setCell (S:=(·=c)) (p:=⟨c,j,none⟩) h (.inl rfl) v
 refine⟨?_,stp _ _ (stp _ _ (stp _ _ (Mod.refl _ _)))⟩
 have:=heap_set (i:=2) (v:=b2) (heap_set (i:=1) (v:=b1) (heap_set (i:=0) (v:=b0) h))
 simpa using this
section
variable {w w':World} {t b g wc:Nat} {s:SpotP}
set_option maxHeartbeats 1000000 in
theorem here_at (h:SpotAt w b g wc s) (hk:1<=s.way.length) (hw:s.way.length<=wc) :
 Calls Tryz.prog 58 #[.pointer (some ⟨t,0,none⟩),.pointer (some ⟨b,0,none⟩)] w fun e w'=>e=.returned (.agg #[z2k s g wc 1,.slice none 0 0,.int .i64 0])/\Below w.heap.size w w':=by
 have hB:Below w.heap.size w (w.alloc (.cells #[.slice none 0 0,.slice none 0 0,.int .i64 0] 90 (0,0))):=(Below.refl _ _).alloc (Nat.le_refl _) _
 have hbl0:=lt_of_block h.h
 have h0:=z0a w (.cells #[.slice none 0 0,.slice none 0 0,.int .i64 0] 90 (0,0))
 have hm:=h.m
 have hb:=(h.keep hB).h
 generalize hW:w.alloc (.cells #[.slice none 0 0,.slice none 0 0,.int .i64 0] 90 (0,0))=W at *
 generalize hu:w.heap.size=u at *
 have hbl:b<W.heap.size:=lt_of_block hb
 have HB:=hid hb
 have H0:=hid h0
 have HW:=hid hW
 have HU:=hid hu
 have HBL:=hid hB
 have e1:((s.way.length:Nat):Int) - 1=((s.way.length - 1:Nat):Int):=by omega
 have hix:s.way.length - 1<=s.way.length:=by omega
 have hl:s.way.length - (s.way.length - 1)=1:=by omega
 unfold z2k
 generalize s.way.length - 1=ix at *
 clear h hb h0 hW hu hB
 go_enter Tryz.func58,Tryz.ntmps58
 go_wp2_with fail
 rw[HW.out,HU.out]
 refine z0f 13 (Turn 12 (SkJ 90 u W #[.slice none 0 0,.slice none 0 0,.int .i64 0]) (SkJ 90 u W #[(.slice (some ⟨g,ix * 2,none⟩) 1 (wc - ix)),.slice none 0 0,.int .i64 0])) (by kernel_rfl) (by kernel_rfl) (by kernel_rfl) (Turn.start ⟨(Mod.refl _ _).drew,H0.out⟩) ?_
 dsimp only[List.take]
 iterate 12
  refine Seq.calm (a':=?_) (by decide) ?_ ?_ ?_
  rotate_left
  ·intro w1 hw1
   have hM:=hw1.elim (·.m) (·.m)
   have hb1:=hM.block b hbl (by show ¬ _=_;omega)
   have q1:=cell_of (hb1.trans HB.out) 1
   clear hM hb1 hw1
   go_wp2_with (fail)
   refine⟨?_,id,id⟩;exact rfl
  ·kernel_rfl
 refine Seq.turn (a':=?_) ?_ ?_ ?_
 rotate_left
 ·intro w1 hw1
  have hM:=hw1.m
  have hc:=hw1.c
  have q0:=cell_of hc 0
  have q1:=cell_of hc 1
  have q2:=cell_of hc 2
  have qf:=z0e hc
  have HC1:=hid hc
  have HM:=hid hM
  clear hw1 hM hc
  go_wp2_with fail
  obtain⟨m1,m2⟩:=set3_at ((.slice (some ⟨g,ix * 2,none⟩) 1 (wc - ix))) (.slice none 0 0) (.int .i64 0) HC1.out
  refine⟨?_,⟨HM.out.trans m2 (fun _ _ h=>h),m1⟩⟩
  exact rfl
 ·kernel_rfl
 iterate 0
  refine Seq.calm (a':=?_) (by decide) ?_ ?_ ?_
  rotate_left
  ·intro w1 hw1
   have hM:=hw1.elim (·.m) (·.m)
   have hb1:=hM.block b hbl (by show ¬ _=_;omega)
   have q1:=cell_of (hb1.trans HB.out) 1
   clear hM hb1 hw1
   go_wp2_with (fail)
   refine⟨?_,id,id⟩;exact rfl
  ·kernel_rfl
 refine SeqI.nil ?_
 intro D w1 hD hI
 replace hI:=hI.done (hD 12 (by omega))
 clear hD
 dsimp only[List.drop]
 have q0:=cell_of hI.c 0
 have q1:=cell_of hI.c 1
 have q2:=cell_of hI.c 2
 have hM:=hI.m
 clear hI
 go_wp2_with fail
 refine bodyPost_ret (v:=.agg #[(.slice (some ⟨g,ix * 2,none⟩) 1 (wc - ix)),.slice none 0 0,.int .i64 0]) (by simp[results,Tryz.results58,go_sem,q0,q1,q2]) rfl ⟨rfl,?_⟩
 exact z0x HBL.out hM (Nat.le_refl _) (by have:=HBL.out.size;have:=lt_of_block H0.out;omega)
set_option maxHeartbeats 1000000 in
theorem split_at (h:SpotAt w b g wc s) (hk:2<=s.way.length) (hw:s.way.length<=wc) :
 Calls Tryz.prog 60 #[.pointer (some ⟨t,0,none⟩),.pointer (some ⟨b,0,none⟩)] w fun e w'=>e=.returned (.agg #[z2k s g wc 2,.slice none 0 0,.int .i64 2])/\Below w.heap.size w w':=by
 have hB:Below w.heap.size w (w.alloc (.cells #[.slice none 0 0,.slice none 0 0,.int .i64 0] 90 (0,0))):=(Below.refl _ _).alloc (Nat.le_refl _) _
 have hbl0:=lt_of_block h.h
 have h0:=z0a w (.cells #[.slice none 0 0,.slice none 0 0,.int .i64 0] 90 (0,0))
 have hm:=h.m
 have hb:=(h.keep hB).h
 generalize hW:w.alloc (.cells #[.slice none 0 0,.slice none 0 0,.int .i64 0] 90 (0,0))=W at *
 generalize hu:w.heap.size=u at *
 have hbl:b<W.heap.size:=lt_of_block hb
 have HB:=hid hb
 have H0:=hid h0
 have HW:=hid hW
 have HU:=hid hu
 have HBL:=hid hB
 have e1:((s.way.length:Nat):Int) - 2=((s.way.length - 2:Nat):Int):=by omega
 have hix:s.way.length - 2<=s.way.length:=by omega
 have hl:s.way.length - (s.way.length - 2)=2:=by omega
 unfold z2k
 generalize s.way.length - 2=ix at *
 clear h hb h0 hW hu hB
 go_enter Tryz.func60,Tryz.ntmps60
 go_wp2_with fail
 rw[HW.out,HU.out]
 refine z0f 13 (Turn 12 (SkJ 90 u W #[.slice none 0 0,.slice none 0 0,.int .i64 0]) (SkJ 90 u W #[(.slice (some ⟨g,ix * 2,none⟩) 2 (wc - ix)),.slice none 0 0,.int .i64 2])) (by kernel_rfl) (by kernel_rfl) (by kernel_rfl) (Turn.start ⟨(Mod.refl _ _).drew,H0.out⟩) ?_
 dsimp only[List.take]
 iterate 12
  refine Seq.calm (a':=?_) (by decide) ?_ ?_ ?_
  rotate_left
  ·intro w1 hw1
   have hM:=hw1.elim (·.m) (·.m)
   have hb1:=hM.block b hbl (by show ¬ _=_;omega)
   have q1:=cell_of (hb1.trans HB.out) 1
   clear hM hb1 hw1
   go_wp2_with (fail)
   refine⟨?_,id,id⟩;exact rfl
  ·kernel_rfl
 refine Seq.turn (a':=?_) ?_ ?_ ?_
 rotate_left
 ·intro w1 hw1
  have hM:=hw1.m
  have hc:=hw1.c
  have q0:=cell_of hc 0
  have q1:=cell_of hc 1
  have q2:=cell_of hc 2
  have qf:=z0e hc
  have HC1:=hid hc
  have HM:=hid hM
  clear hw1 hM hc
  go_wp2_with fail
  obtain⟨m1,m2⟩:=set3_at ((.slice (some ⟨g,ix * 2,none⟩) 2 (wc - ix))) (.slice none 0 0) (.int .i64 2) HC1.out
  refine⟨?_,⟨HM.out.trans m2 (fun _ _ h=>h),m1⟩⟩
  exact rfl
 ·kernel_rfl
 iterate 0
  refine Seq.calm (a':=?_) (by decide) ?_ ?_ ?_
  rotate_left
  ·intro w1 hw1
   have hM:=hw1.elim (·.m) (·.m)
   have hb1:=hM.block b hbl (by show ¬ _=_;omega)
   have q1:=cell_of (hb1.trans HB.out) 1
   clear hM hb1 hw1
   go_wp2_with (fail)
   refine⟨?_,id,id⟩;exact rfl
  ·kernel_rfl
 refine SeqI.nil ?_
 intro D w1 hD hI
 replace hI:=hI.done (hD 12 (by omega))
 clear hD
 dsimp only[List.drop]
 have q0:=cell_of hI.c 0
 have q1:=cell_of hI.c 1
 have q2:=cell_of hI.c 2
 have hM:=hI.m
 clear hI
 go_wp2_with fail
 refine bodyPost_ret (v:=.agg #[(.slice (some ⟨g,ix * 2,none⟩) 2 (wc - ix)),.slice none 0 0,.int .i64 2]) (by simp[results,Tryz.results60,go_sem,q0,q1,q2]) rfl ⟨rfl,?_⟩
 exact z0x HBL.out hM (Nat.le_refl _) (by have:=HBL.out.size;have:=lt_of_block H0.out;omega)
end
variable {cd pt vl:ByteArray} {gn k tk:Int} {i kb km sb sg t yc yn zc zn:Nat} {ya za:Option Addr}
theorem nodeB {W w2:World} (h:Below W.heap.size W w2) (z:w2.heap[W.heap.size]?=some (.cells #[.int .i64 0,.string ⟨#[]⟩,.string ⟨#[]⟩,.string ⟨#[]⟩,.slice none 0 0,.slice none 0 0] 102 (0,0))):NodeMid W ((((((w2.setCell ⟨W.heap.size,0,none⟩ (.int .i64 k)).setCell ⟨W.heap.size,1,none⟩ (.string cd)).setCell ⟨W.heap.size,2,none⟩ (.string vl)).setCell ⟨W.heap.size,3,none⟩ (.string pt)).setCell ⟨W.heap.size,4,none⟩ (.slice ya yn yc)).setCell ⟨W.heap.size,5,none⟩ (.slice za zn zc)) W.heap.size (.cells #[.int .i64 k,.string cd,.string vl,.string pt,.slice ya yn yc,.slice za zn zc] 102 (0,0)):=by
 obtain⟨m1,m2⟩:=O.set6_at (.int .i64 k) (.string cd) (.string vl) (.string pt) (.slice ya yn yc) (.slice za zn zc) z
 exact⟨z0x h m2 (Nat.le_refl _) h.size,Nat.le_refl _,m1⟩
variable {di pl:Bool} {l:List (Cel Nd)} {L:List (RefK × Wd)}
set_option maxHeartbeats 4000000 in
theorem grows_at (slot gen:Int) (w:World) (h:TreeAt w t sb sg kb km l L tk) (hr:RoomsAt w) (hzn:zn<=1000)
 (hL:S.Live l slot gen i ⟨true,⟨k,cd,vl,pt,⟨ya,yn,yc⟩,⟨za,zn,zc⟩,pl,di⟩,gn⟩) (b:Bool) (hbv:b=(!pl && !(((kindOf (zn+1):Nat):Int) == k))) :
 Calls Tryz.prog 92 #[.pointer (some ⟨t,0,none⟩),.agg #[.int .i64 slot,.int .u32 gen]] w fun e w'=>e=.returned (.bool b)/\Below w.heap.size w w':=by
 have hN:=z0a w (.cells #[.int .i64 slot,.int .u32 gen] 36 (0,0))
 have hA:=h.alloc (.cells #[.int .i64 slot,.int .u32 gen] 36 (0,0))
 have hB:Below w.heap.size w (w.alloc (.cells #[.int .i64 slot,.int .u32 gen] 36 (0,0))):=(Below.refl _ _).alloc (Nat.le_refl _) _
 generalize hW:w.alloc (.cells #[.int .i64 slot,.int .u32 gen] 36 (0,0))=W at *
 have HW:=hid hW
 have HA:=hid hA
 have HN:=hid hN
 have HB:=hid hB
 have HRM:=hid hr
 have HT:Hid (∀ w1,Below W.heap.size W w1->Calls Tryz.prog 32 #[.pointer (some ⟨t,0,none⟩),.agg #[.int .i64 slot,.int .u32 gen]] w1 fun e w'=>e=.returned (.agg #[.int .i64 k,.string cd,.string vl,.string pt,.slice ya yn yc,.slice za zn zc])/\Below w1.heap.size w1 w'):=hid (fun w1 hw1=>node_at slot gen w1 (HA.out.keep hw1) hL)
 have HP:Hid (∀ w1,Below W.heap.size W w1->Calls Tryz.prog 37 #[.pointer (some ⟨t,0,none⟩),.agg #[.int .i64 slot,.int .u32 gen]] w1 fun e w'=>e=.returned (.bool pl)/\Below w1.heap.size w1 w'):=hid (fun w1 hw1=>planted_at slot gen w1 (HA.out.keep hw1) hL)
 have c0:=cell_of HA.out.ht 0
 have n0:=cell_of HN.out 0
 have n1:=cell_of HN.out 1
 have l0:=lt_of_block HN.out
 have l1:=lt_of_block HA.out.ht
 clear hW hA hN hB h hL hr
 go_enter Tryz.func92,Tryz.ntmps92
 go_wp2_with fail
 rw[HW.out]
 go_region_with (go_at_call 32;refine (HT.out _ (by (repeat (first|exact Below.refl _ _|assumption|with_reducible refine Below.drew ?_|with_reducible refine below_drewN ?_|with_reducible refine Below.setCell ?_ (by first|(simp;done)|(simp;omega)) _|with_reducible refine Below.alloc ?_ (by first|exact Nat.le_refl _|(simp;done)|(simp;omega)) _)))).mono ?_;rintro e w2 ⟨rfl,hw2⟩;(try (have z:=(hw2.block W.heap.size (by simp)).trans (z0a W (.cells #[.int .i64 0,.string ⟨#[]⟩,.string ⟨#[]⟩,.string ⟨#[]⟩,.slice none 0 0,.slice none 0 0] 102 (0,0)));have z0:=cell_of z 0;have z1:=cell_of z 1;have z2:=cell_of z 2;have z3:=cell_of z 3;have z4:=cell_of z 4;have z5:=cell_of z 5;have zf:=z0e z));have HW2:Hid (Below W.heap.size W w2):=hid (z0d (by (repeat (first|exact Below.refl _ _|assumption|with_reducible refine Below.drew ?_|with_reducible refine below_drewN ?_|with_reducible refine Below.setCell ?_ (by first|(simp;done)|(simp;omega)) _|with_reducible refine Below.alloc ?_ (by first|exact Nat.le_refl _|(simp;done)|(simp;omega)) _))) hw2 (by first|exact Nat.le_refl _|(simp;done)|(simp;omega)));clear hw2)
 all_goals first|(have hmid:=nodeB (k:=k) (cd:=cd) (vl:=vl) (pt:=pt) (ya:=ya) (za:=za) (yn:=yn) (yc:=yc) (zn:=zn) (zc:=zc) HW2.out z;generalize hE:((((((w2.setCell ⟨W.heap.size,0,none⟩ (.int .i64 k)).setCell ⟨W.heap.size,1,none⟩ (.string cd)).setCell ⟨W.heap.size,2,none⟩ (.string vl)).setCell ⟨W.heap.size,3,none⟩ (.string pt)).setCell ⟨W.heap.size,4,none⟩ (.slice ya yn yc)).setCell ⟨W.heap.size,5,none⟩ (.slice za zn zc))=w3 at hmid ⊢;generalize hEu:W.heap.size=u at hmid ⊢)|(have hmid:=nmidA (o:=(.cells #[.int .i64 k,.string cd,.string vl,.string pt,.slice ya yn yc,.slice za zn zc] 102 (0,0))) HW2.out;generalize hE:w2.alloc (.cells #[.int .i64 k,.string cd,.string vl,.string pt,.slice ya yn yc,.slice za zn zc] 102 (0,0))=w3 at hmid ⊢;generalize hEu:w2.heap.size=u at hmid ⊢)
 all_goals
  try clear z z0 z1 z2 z3 z4 z5 zf
  clear hE hEu HT c0 n0 n1 HW2
  obtain⟨hb3,hu,ho⟩:=hmid
  have hn:=z0b HN.out hb3 l0
  have o5:=cell_of ho 5
  have HO3:=hid ho
  have HN3:=hid hn
  have HB3:=hid hb3
  have HOF:=hid (O.of_at (zn+1) w3 (HRM.out.keep (HB.out.trans (hb3.mono HB.out.size))) (by omega))
  clear ho hn hb3
  go_wp2_with (go_at_call 105;refine HOF.out.mono ?_;rintro e w4 ⟨rfl,rfl⟩)
  cases pl
  ·refine z0g 13 (fun w1=>Below (w3).heap.size (w3) w1) (by kernel_rfl) (by kernel_rfl) (by kernel_rfl) ⟨rfl,rfl,rfl,Nat.le_refl _,fun _ _=>rfl⟩ ?_
   dsimp only[List.take]
   iterate 13
    refine Seq.cons (a':=?_) ?_ ?_ ?_
    rotate_left
    ·intro w1 hw1
     have t0:=cell_of ((HA.out.keep HB3.out).keep hw1).ht 0
     have hn:=z0b HN3.out hw1 (lt_of_block HN3.out)
     have n0:=cell_of hn 0
     have n1:=cell_of hn 1
     have o0:=cell_of (z0b HO3.out hw1 (lt_of_block HO3.out)) 0
     clear hn
     go_wp2_with (go_at_call 37;refine (HP.out _ (HB3.out.trans (hw1.mono HB3.out.size))).mono ?_;rintro e w' ⟨rfl,hb'⟩;have hb:=hb')
     refine⟨?_,by first|assumption|(simpa using z0d hw1 hb hw1.size)⟩
     exact rfl
    ·kernel_rfl
   refine SeqI.nil ?_
   intro _ w1 _ hw1
   dsimp only[List.drop]
   have HW1:=hid hw1
   clear hw1
   go_wp2_with fail
   go_ret
   exact⟨by rw[hbv];rfl,HB.out.trans ((HB3.out.trans (HW1.out.mono HB3.out.size)).mono HB.out.size)⟩
  ·refine z0g 13 (fun w1=>Below (w3).heap.size (w3) w1) (by kernel_rfl) (by kernel_rfl) (by kernel_rfl) ⟨rfl,rfl,rfl,Nat.le_refl _,fun _ _=>rfl⟩ ?_
   dsimp only[List.take]
   iterate 13
    refine Seq.cons (a':=?_) ?_ ?_ ?_
    rotate_left
    ·intro w1 hw1
     have t0:=cell_of ((HA.out.keep HB3.out).keep hw1).ht 0
     have hn:=z0b HN3.out hw1 (lt_of_block HN3.out)
     have n0:=cell_of hn 0
     have n1:=cell_of hn 1
     have o0:=cell_of (z0b HO3.out hw1 (lt_of_block HO3.out)) 0
     clear hn
     go_wp2_with (go_at_call 37;refine (HP.out _ (HB3.out.trans (hw1.mono HB3.out.size))).mono ?_;rintro e w' ⟨rfl,hb'⟩;have hb:=hb')
     refine⟨?_,by first|assumption|(simpa using z0d hw1 hb hw1.size)⟩
     exact rfl
    ·kernel_rfl
   refine SeqI.nil ?_
   intro _ w1 _ hw1
   dsimp only[List.drop]
   have HW1:=hid hw1
   clear hw1
   go_wp2_with fail
   go_ret
   exact⟨by rw[hbv];rfl,HB.out.trans ((HB3.out.trans (HW1.out.mono HB3.out.size)).mono HB.out.size)⟩
set_option maxHeartbeats 2000000 in
theorem bare_no {b g wc:Nat} {s:SpotP} {r:Int × Int} (w:World) (h:TreeAt w t sb sg kb km l L tk) (hr:RoomsAt w) (hzn:zn<=1000)
 (hs:SpotAt w b g wc s) (hw:s.way.length<=wc) (hrl:s.way[s.way.length - 1]?=some r) (hL:S.Live l r.1 r.2 i ⟨true,⟨k,cd,vl,pt,⟨ya,yn,yc⟩,⟨za,zn,zc⟩,pl,di⟩,gn⟩) (hb:(!pl && !(((kindOf (zn+1):Nat):Int) == k))=false) :
 Calls Tryz.prog 59 #[.pointer (some ⟨t,0,none⟩),.pointer (some ⟨b,0,none⟩)] w fun e w'=>e=.returned (.agg #[z2k s g wc 1,.slice none 0 0,.int .i64 1])/\Below w.heap.size w w':=by
 have hB:Below w.heap.size w (w.alloc (.cells #[.slice none 0 0,.slice none 0 0,.int .i64 0] 90 (0,0))):=(Below.refl _ _).alloc (Nat.le_refl _) _
 have hbl0:=lt_of_block hs.h
 have h0:=z0a w (.cells #[.slice none 0 0,.slice none 0 0,.int .i64 0] 90 (0,0))
 have hm:=hs.m
 have hn:=hs.n
 have HUP:=hid (up_at (k:=0) (hs.keep hB) hn (by simpa using hrl))
 have hb0:=hs.keep hB
 have HT:=hid (h.keep hB)
 have HRM:=hid (hr.keep hB)
 have HL:=hid hL
 have HBV:=hid hb
 generalize hW:w.alloc (.cells #[.slice none 0 0,.slice none 0 0,.int .i64 0] 90 (0,0))=W at *
 generalize hu:w.heap.size=u at *
 have HB:=hid hb0.h
 have H0:=hid h0
 have HW:=hid hW
 have HU:=hid hu
 have HBL:=hid hB
 have hbl:b<W.heap.size:=lt_of_block HB.out
 have e1:((s.way.length:Nat):Int) - 1=((s.way.length - 1:Nat):Int):=by omega
 have hix:s.way.length - 1<=s.way.length:=by omega
 have hl:s.way.length - (s.way.length - 1)=1:=by omega
 unfold z2k
 generalize s.way.length - 1=ix at *
 clear h hr hs hb0 h0 hW hu hB hL hb hrl
 go_enter Tryz.func59,Tryz.ntmps59
 go_wp2_with fail
 rw[HW.out,HU.out]
 go_wp2_with (first|(go_at_call 31;refine HUP.out.mono ?_;rintro e w2 ⟨rfl,hb2⟩;go_loud (have HGR:=hid (grows_at r.1 r.2 w2 (HT.out.keep hb2) (HRM.out.keep hb2) hzn HL.out false HBV.out.symm);have HB2:=hid hb2;clear hb2))|(go_at_call 92;refine HGR.out.mono ?_;rintro e w3 ⟨rfl,hb3⟩;go_loud (have hb23:=HB2.out.trans (hb3.mono HB2.out.size);have H03:=hid ((hb23.block _ (lt_of_block H0.out)).trans H0.out);have HB3:=hid ((hb23.block _ (lt_of_block HB.out)).trans HB.out);have HBL3:=hid (HBL.out.trans (hb23.mono (by have:=HBL.out.size;have:=HU.out;omega)));clear hb23 hb3)))
 refine z0f 13 (Turn 12 (SkJ 90 u w3 #[.slice none 0 0,.slice none 0 0,.int .i64 0]) (SkJ 90 u w3 #[(.slice (some ⟨g,ix * 2,none⟩) 1 (wc - ix)),.slice none 0 0,.int .i64 1])) (by kernel_rfl) (by kernel_rfl) (by kernel_rfl) (Turn.start ⟨(Mod.refl _ _).drew,H03.out⟩) ?_
 dsimp only[List.take]
 iterate 12
  refine Seq.calm (a':=?_) (by decide) ?_ ?_ ?_
  rotate_left
  ·intro w1 hw1
   have hM:=hw1.elim (·.m) (·.m)
   have hb1:=hM.block b (lt_of_block HB3.out) (by show ¬ _=_;omega)
   have q1:=cell_of (hb1.trans HB3.out) 1
   clear hM hb1 hw1
   go_wp2_with (fail)
   refine⟨?_,id,id⟩;exact rfl
  ·kernel_rfl
 refine Seq.turn (a':=?_) ?_ ?_ ?_
 rotate_left
 ·intro w1 hw1
  have hM:=hw1.m
  have hc:=hw1.c
  have q0:=cell_of hc 0
  have q1:=cell_of hc 1
  have q2:=cell_of hc 2
  have qf:=z0e hc
  have HC1:=hid hc
  have HM:=hid hM
  clear hw1 hM hc
  go_wp2_with fail
  obtain⟨m1,m2⟩:=set3_at ((.slice (some ⟨g,ix * 2,none⟩) 1 (wc - ix))) (.slice none 0 0) (.int .i64 1) HC1.out
  refine⟨?_,⟨HM.out.trans m2 (fun _ _ h=>h),m1⟩⟩
  exact rfl
 ·kernel_rfl
 iterate 0
  refine Seq.calm (a':=?_) (by decide) ?_ ?_ ?_
  rotate_left
  ·intro w1 hw1
   have hM:=hw1.elim (·.m) (·.m)
   have hb1:=hM.block b (lt_of_block HB3.out) (by show ¬ _=_;omega)
   have q1:=cell_of (hb1.trans HB3.out) 1
   clear hM hb1 hw1
   go_wp2_with (fail)
   refine⟨?_,id,id⟩;exact rfl
  ·kernel_rfl
 refine SeqI.nil ?_
 intro D w1 hD hI
 replace hI:=hI.done (hD 12 (by omega))
 clear hD
 dsimp only[List.drop]
 have q0:=cell_of hI.c 0
 have q1:=cell_of hI.c 1
 have q2:=cell_of hI.c 2
 have hM:=hI.m
 clear hI
 go_wp2_with fail
 refine bodyPost_ret (v:=.agg #[(.slice (some ⟨g,ix * 2,none⟩) 1 (wc - ix)),.slice none 0 0,.int .i64 1]) (by simp[results,Tryz.results59,go_sem,q0,q1,q2]) rfl ⟨rfl,?_⟩
 exact z0x HBL3.out hM (Nat.le_refl _) (by have:=lt_of_block H03.out;omega)
end Go.Proofs.YtgdmfledhhoedaaGreatDoor.T
namespace Go.Burg
open Go Go.RowKit
structure GJ (T:TypeId) (F:World->Value->Prop) (W0:World) (c4 iL iS:Nat) (fx fd:List Nat) (R:List (Nat × Nat)) (tab:Nat->Value) (td:Nat->Value->Value) (o0:Array Value) (o1:Value->Array Value) (D:Nat->Bool) (xs:Nat->Value) (w:World):Prop where
 m:Mod (·=c4) W0 w
 l:D iL=true->F w (xs iL)
 v:∀ j,D j=true->j∈fx->xs j=tab j
 e:∀ j,D j=true->j∈fd->D iL=true/\xs j=td j (xs iL)
 s:D iS=true->D iL=true
 c:w.heap[c4]?=some (.cells (cond (D iS) (o1 (xs iL)) o0) T (0,0))
 p:∀ i j,(i,j)∈R->D i=true->D j=true
def GKeeps (F:World->Value->Prop) (c4:Nat):Prop:=∀ w w' v,F w v->Mod (·=c4) w w'->F w' v
section
variable {T:TypeId} {F:World->Value->Prop} {W0 w w':World} {c4 iL iS:Nat} {fx fd:List Nat} {R:List (Nat × Nat)} {tab:Nat->Value} {td:Nat->Value->Value} {o0:Array Value} {o1:Value->Array Value} {D:Nat->Bool} {xs:Nat->Value}
theorem z1e {S:Nat->Prop} (h:Below w.heap.size w w'):Mod S w w':=⟨h.os,h.tape,h.output,h.size,fun k hk _=>h.block k hk⟩
theorem GJ.start (hc:W0.heap[c4]?=some (.cells o0 T (0,0))):GJ T F W0 c4 iL iS fx fd R tab td o0 o1 (fun _=>false) (fun _=>undef) W0.drew :=
 ⟨(Mod.refl _ _).drew,fun h=>(by cases h),fun j h=>(by cases h),fun j h=>(by cases h),fun h=>(by cases h),hc,fun _ _ _ h=>(by cases h)⟩
theorem GJ.pp (h:GJ T F W0 c4 iL iS fx fd R tab td o0 o1 D xs w) {i:Nat} (hp:∀ j,(i,j)∈R->D j=true):∀ a b,(a,b)∈R->(D a || a == i)=true->(D b || b == i)=true:=fun a b hab ha=>by
 simp only[Bool.or_eq_true,beq_iff_eq] at ha ⊢
 rcases ha with ha|rfl
 ·exact .inl (h.p a b hab ha)
 ·exact .inl (hp b hab)
theorem GJ.calm (hF:GKeeps F c4) (h:GJ T F W0 c4 iL iS fx fd R tab td o0 o1 D xs w) {i:Nat} {u:Value} (hb:Below w.heap.size w w') (hp:∀ j,(i,j)∈R->D j=true:=by intro j h;exact absurd h (by simp)) (h1:i≠iL:=by decide) (h2:i≠iS:=by decide) (h3:i ∉ fd:=by decide) (hu:i∈fx->u=tab i:=by intro h;cases h):GJ T F W0 c4 iL iS fx fd R tab td o0 o1 (fun j=>D j || j == i) (fun j=>if j=i then u else xs j) w':=by
 have hn:¬ iL=i:=fun e=>h1 e.symm
 have hs:¬ iS=i:=fun e=>h2 e.symm
 have eL:(D iL || iL == i)=D iL:=by simp[hn]
 have eS:(D iS || iS == i)=D iS:=by simp[hs]
 refine⟨h.m.trans (z1e hb) (fun _ _ e=>e),fun e=>?_,fun j hj hr=>?_,fun j hj hr=>?_,fun e=>?_,?_,h.pp hp⟩
 ·simp only[if_neg hn]
  exact hF _ _ _ (h.l (by rwa [eL] at e)) (z1e hb)
 ·by_cases e:j=i
  ·subst e;simp only[if_pos];exact hu hr
  ·simp only[if_neg e];exact h.v j (by simpa[e] using hj) hr
 ·have e:¬ j=i:=fun e=>h3 (e ▸ hr)
  obtain⟨a,b⟩:=h.e j (by simpa[e] using hj) hr
  simp only[if_neg e,if_neg hn,eL]
  exact⟨a,b⟩
 ·rw[eL];exact h.s (by rwa [eS] at e)
 ·simp only[eS,if_neg hn]
  exact (hb.block c4 (lt_of_block h.c)).trans h.c
theorem GJ.dep (h:GJ T F W0 c4 iL iS fx fd R tab td o0 o1 D xs w) {i:Nat} {u:Value} (hL:D iL=true) (hu:u=td i (xs iL)) (hp:∀ j,(i,j)∈R->D j=true:=by intro j h;exact absurd h (by simp)) (h1:i≠iL:=by decide) (h2:i≠iS:=by decide) (h3:i ∉ fx:=by decide):GJ T F W0 c4 iL iS fx fd R tab td o0 o1 (fun j=>D j || j == i) (fun j=>if j=i then u else xs j) w:=by
 have hn:¬ iL=i:=fun e=>h1 e.symm
 have hs:¬ iS=i:=fun e=>h2 e.symm
 have eL:(D iL || iL == i)=D iL:=by simp[hn]
 have eS:(D iS || iS == i)=D iS:=by simp[hs]
 refine⟨h.m,fun e=>?_,fun j hj hr=>?_,fun j hj hr=>?_,fun e=>?_,?_,h.pp hp⟩
 ·simp only[if_neg hn];exact h.l hL
 ·have e:¬ j=i:=fun e=>h3 (e ▸ hr)
  simp only[if_neg e];exact h.v j (by simpa[e] using hj) hr
 ·by_cases e:j=i
  ·subst e;simp only[if_pos,if_neg hn,eL];exact⟨hL,hu⟩
  ·obtain⟨a,b⟩:=h.e j (by simpa[e] using hj) hr
   simp only[if_neg e,if_neg hn,eL]
   exact⟨a,b⟩
 ·rw[eL];exact hL
 ·simp only[eS,if_neg hn];exact h.c
theorem GJ.call (h:GJ T F W0 c4 iL iS fx fd R tab td o0 o1 D xs w) (hD:D iL=false) {u:Value} (hu:F w' u) (hb:Below w.heap.size w w') (hp:∀ j,(iL,j)∈R->D j=true:=by intro j h;exact absurd h (by simp)) (hne:iL≠iS:=by decide) (hf:iL ∉ fx:=by decide) (hd:iL ∉ fd:=by decide):GJ T F W0 c4 iL iS fx fd R tab td o0 o1 (fun j=>D j || j == iL) (fun j=>if j=iL then u else xs j) w':=by
 have hs:¬ iS=iL:=fun e=>hne e.symm
 have eS:(D iS || iS == iL)=D iS:=by simp[hs]
 have hSf:D iS=false:=by
  cases e:D iS
  ·rfl
  ·rw[h.s e] at hD;cases hD
 refine⟨h.m.trans (z1e hb) (fun _ _ e=>e),fun e=>?_,fun j hj hr=>?_,fun j hj hr=>?_,fun e=>by simp,?_,h.pp hp⟩
 ·simp only[if_pos];exact hu
 ·have e:¬ j=iL:=fun e=>hf (e ▸ hr)
  simp only[if_neg e];exact h.v j (by simpa[e] using hj) hr
 ·have e:¬ j=iL:=fun e=>hd (e ▸ hr)
  have:=(h.e j (by simpa[e] using hj) hr).1
  rw[hD] at this;cases this
 ·have e2:(D iS || iS == iL)=false:=by rw[eS,hSf]
  simp only[e2,cond_false]
  have:=h.c
  rw[hSf] at this
  exact (hb.block c4 (lt_of_block h.c)).trans this
theorem GJ.store (hF:GKeeps F c4) (h:GJ T F W0 c4 iL iS fx fd R tab td o0 o1 D xs w) (hL:D iL=true) {u:Value} (hm:Mod (·=c4) w w') (hc:w'.heap[c4]?=some (.cells (o1 (xs iL)) T (0,0))) (hp:∀ j,(iS,j)∈R->D j=true:=by intro j h;exact absurd h (by simp)) (hne:iL≠iS:=by decide) (hf:iS ∉ fx:=by decide) (hd:iS ∉ fd:=by decide):GJ T F W0 c4 iL iS fx fd R tab td o0 o1 (fun j=>D j || j == iS) (fun j=>if j=iS then u else xs j) w':=by
 have hn:¬ iL=iS:=hne
 have eL:(D iL || iL == iS)=D iL:=by simp[hn]
 refine⟨h.m.trans hm (fun _ _ e=>e),fun e=>?_,fun j hj hr=>?_,fun j hj hr=>?_,fun e=>?_,?_,h.pp hp⟩
 ·simp only[if_neg hn];exact hF _ _ _ (h.l hL) hm
 ·have e:¬ j=iS:=fun e=>hf (e ▸ hr)
  simp only[if_neg e];exact h.v j (by simpa[e] using hj) hr
 ·have e:¬ j=iS:=fun e=>hd (e ▸ hr)
  obtain⟨a,b⟩:=h.e j (by simpa[e] using hj) hr
  simp only[if_neg e,if_neg hn,eL]
  exact⟨a,b⟩
 ·rw[eL];exact hL
 ·simp only[if_neg hn,beq_self_eq_true,Bool.or_true,cond_true];exact hc
end
end Go.Burg
namespace Go.Proofs.YtgdmfledhhoedaaGreatDoor.T
set_option maxRecDepth 8000
open Go.ChangeShapes Go.WideShapes Go.ChangeAt Go.RowKit Go.Burg
open Go.Burg.Lk
variable {b g i k kb km n sb sg t v wc yc yn zc zn:Nat}
theorem SpotAt.mod {w w':World} {s:SpotP} (h:SpotAt w b g wc s) (hM:Mod (·=k) w w') (h1:b≠k) (h2:g≠k):SpotAt w' b g wc s :=
 ⟨(hM.block _ (lt_of_block h.h) h1).trans h.h,O.z0h h.o hM (fun j hj e=>by simp only[Value.ownBlock,Option.some.injEq] at hj;have:j=k:=e;omega),h.n,h.m⟩
variable {di pl:Bool} {pt:ByteArray} {gn tk:Int} {l:List (Cel Nd)} {L:List (RefK × Wd)} {ya za:Option Addr}
set_option maxRecDepth 20000 in
set_option maxHeartbeats 4000000 in
theorem bare_yes {k:Int} {cd vl:ByteArray} {s:SpotP} {r:Int × Int} (w:World) (h:TreeAt w t sb sg kb km l L tk) (hr:RoomsAt w) (hzn:zn<=1000)
 (hs:SpotAt w b g wc s) (hw:s.way.length<=wc) (hw2:2<=s.way.length) (hrl:s.way[s.way.length - 1]?=some r) (hL:S.Live l r.1 r.2 i ⟨true,⟨k,cd,vl,pt,⟨ya,yn,yc⟩,⟨za,zn,zc⟩,pl,di⟩,gn⟩) (hb:(!pl && !(((kindOf (zn+1):Nat):Int) == k))=true) :
 Calls Tryz.prog 59 #[.pointer (some ⟨t,0,none⟩),.pointer (some ⟨b,0,none⟩)] w fun e w'=>∃ a,e=.returned (.agg #[z2k s g wc 2,.slice (some ⟨a,0,none⟩) 1 1,.int .i64 2])/\w'.heap[a]?=some (.cells #[.int .i64 r.1,.int .u32 r.2] 36 (0,0))/\w.heap.size<=a/\Below w.heap.size w w':=by
 have hB:Below w.heap.size w (w.alloc (.cells #[.slice none 0 0,.slice none 0 0,.int .i64 0] 90 (0,0))):=(Below.refl _ _).alloc (Nat.le_refl _) _
 have hbl0:=lt_of_block hs.h
 have h0:=z0a w (.cells #[.slice none 0 0,.slice none 0 0,.int .i64 0] 90 (0,0))
 have hm:=hs.m
 have hn:=hs.n
 have hgl0:=hs.glt
 have HUP:=hid (fun w1 (hs1:SpotAt w1 b g wc s)=>up_at (k:=0) hs1 hn (by simpa using hrl))
 have HSP:=hid (hs.keep hB)
 have hb0:=hs.keep hB
 have HT:=hid (h.keep hB)
 have HRM:=hid (hr.keep hB)
 have HL:=hid hL
 have HBV:=hid hb
 generalize hW:w.alloc (.cells #[.slice none 0 0,.slice none 0 0,.int .i64 0] 90 (0,0))=W at *
 generalize hu:w.heap.size=u at *
 have HB:=hid hb0.h
 have H0:=hid h0
 have HW:=hid hW
 have HU:=hid hu
 have HBL:=hid hB
 have hbl:b<W.heap.size:=lt_of_block HB.out
 have e1:((s.way.length:Nat):Int) - 2=((s.way.length - 2:Nat):Int):=by omega
 have hix:s.way.length - 2<=s.way.length:=by omega
 have hl:s.way.length - (s.way.length - 2)=2:=by omega
 unfold z2k
 generalize s.way.length - 2=ix at *
 clear h hr hs hb0 h0 hW hu hB hL hb hrl
 go_enter Tryz.func59,Tryz.ntmps59
 go_wp2_with fail
 rw[HW.out,HU.out]
 go_wp2_with (first|(go_at_call 31;refine (HUP.out _ HSP.out).mono ?_;rintro e w2 ⟨rfl,hb2⟩;go_loud (have HGR:=hid (grows_at r.1 r.2 w2 (HT.out.keep hb2) (HRM.out.keep hb2) hzn HL.out true HBV.out.symm);have HB2:=hid hb2;clear hb2))|(go_at_call 92;refine HGR.out.mono ?_;rintro e w3 ⟨rfl,hb3⟩;go_loud (have hb23:=HB2.out.trans (hb3.mono HB2.out.size);have H03:=hid ((hb23.block _ (lt_of_block H0.out)).trans H0.out);have HB3:=hid ((hb23.block _ (lt_of_block HB.out)).trans HB.out);have HSP3:=hid (HSP.out.keep hb23);have HBL3:=hid (HBL.out.trans (hb23.mono (by have:=HBL.out.size;have:=HU.out;omega)));clear hb23 hb3)))
 have hu3:=lt_of_block H03.out
 have hGK:GKeeps (fun w1 v=>∃ a,w3.heap.size<=a/\v=.slice (some ⟨a,0,none⟩) 1 1/\w1.heap[a]?=some (.cells #[.int .i64 r.1,.int .u32 r.2] 36 (0,0))) u:=by
  rintro wa wb v ⟨a,h1,h2,h3⟩ hM
  exact⟨a,h1,h2,(hM.block a (lt_of_block h3) (by show ¬ a=u;omega)).trans h3⟩
 have HGK:=hid hGK
 clear hGK
 refine z0r 16 [13] (fun xs=>[.pointer (some ⟨b,0,none⟩),.pointer (some ⟨b,0,none⟩),.pointer (some ⟨b,1,none⟩),(.slice (some ⟨g,0,none⟩) s.way.length wc),.pointer (some ⟨b,0,none⟩),.pointer (some ⟨b,0,none⟩),.pointer (some ⟨b,1,none⟩),(.slice (some ⟨g,0,none⟩) s.way.length wc),.int .i64 s.way.length,.int .i64 ix,(.slice (some ⟨g,ix * 2,none⟩) 2 (wc - ix)),.pointer (some ⟨b,0,none⟩),.agg #[.int .i64 r.1,.int .u32 r.2],xs 13,.agg #[(.slice (some ⟨g,ix * 2,none⟩) 2 (wc - ix)),xs 13,.int .i64 2],undef]) (GJ 90 (fun w1 v=>∃ a,w3.heap.size<=a/\v=.slice (some ⟨a,0,none⟩) 1 1/\w1.heap[a]?=some (.cells #[.int .i64 r.1,.int .u32 r.2] 36 (0,0))) w3 u 13 15 [] [] [(14,13)] (fun _=>undef) (fun _ v=>v) #[.slice none 0 0,.slice none 0 0,.int .i64 0] (fun v=>#[(.slice (some ⟨g,ix * 2,none⟩) 2 (wc - ix)),v,.int .i64 2])) ?h0 (fun xs ys h=>by simp[h]) ?hs ?hend
 case h0=>exact GJ.start H03.out
 case hs =>
  dsimp only[List.take,z1c,OpT,z1s]
  (repeat' refine And.intro ?_ ?_)<;>first|refine .inl ⟨rfl,?_⟩|refine .inr ⟨rfl,?_⟩
  iterate 12
   ·intro D xs w1 hDk hwt hJ
    have q1:=cell_of ((hJ.m.block b (lt_of_block HB3.out) (by show ¬ _=_;omega)).trans HB3.out) 1
    have HJ:=hid hJ
    clear hDk hwt hJ
    go_wp2_with fail
    refine⟨by kernel_rfl,?_⟩;(try intro _ _);exact GJ.calm HGK.out HJ.out (Below.refl _ _)
  ·intro D xs w1 hDk hwt hJ
   have HUW:=hid (HUP.out w1 (HSP3.out.mod hJ.m (by omega) (by omega)))
   have HJ:=hid hJ
   clear hDk hwt hJ
   go_wp2_with (go_at_call 31;refine HUW.out.mono ?_;rintro e w4 ⟨rfl,hb4⟩)
   refine⟨by kernel_rfl,?_⟩;(try intro _ _);exact GJ.calm HGK.out HJ.out (hb4)
  ·intro D xs w1 hDk hwt hJ
   have hD:D 13=false:=hDk
   have hsz:=hJ.m.size
   have HJ:=hid hJ
   clear hDk hwt hJ
   go_wp2_with fail
   have hnb:=z0a w1 (.cells #[.int .i64 r.1,.int .u32 r.2] 36 (0,0))
   have hbl1:Below w1.heap.size w1 (w1.alloc (.cells #[.int .i64 r.1,.int .u32 r.2] 36 (0,0))):=(Below.refl _ _).alloc (Nat.le_refl _) _
   exact⟨_,by kernel_rfl,fun q hq=>by obtain rfl:=hq rfl;exact GJ.call HJ.out hD ⟨w1.heap.size,hsz,rfl,hnb⟩ hbl1⟩
  ·intro D xs w1 hDk hwt hJ
   have h13:D 13=true:=hwt 13 (eM (by kernel_rfl))
   obtain⟨a,_,ea,_⟩:=hJ.l h13
   have HJ:=hid hJ
   rw[ea]
   clear hDk hwt hJ ea
   go_wp2_with fail
   exact⟨by kernel_rfl,fun _ _=>GJ.calm HGK.out HJ.out (Below.refl _ _) (fun j h=>by simp at h;subst h;exact h13)⟩
  ·intro D xs w1 hDk hwt hJ
   have hD:D 15=false:=hDk
   have h13:=hJ.p 14 13 (by decide) (hwt 14 (eM (by kernel_rfl)))
   obtain⟨a,_,ea,_⟩:=hJ.l h13
   have hc:=hJ.c
   rw[hD] at hc
   simp only[cond_false] at hc
   rw[ea]
   have q0:=cell_of hc 0
   have q1:=cell_of hc 1
   have q2:=cell_of hc 2
   have qf:=z0e hc
   have HC:=hid hc
   have HJ:=hid hJ
   have HEA:=hid ea
   clear hDk hwt hJ ea hc
   go_wp2_with fail
   obtain⟨m1,m2⟩:=set3_at ((.slice (some ⟨g,ix * 2,none⟩) 2 (wc - ix))) (.slice (some ⟨a,0,none⟩) 1 1) (.int .i64 2) HC.out
   exact⟨by kernel_rfl,fun q _=>GJ.store HGK.out HJ.out h13 m2 (by rw[HEA.out];exact m1)⟩
 case hend =>
  intro D xs w1 hD hJ
  obtain⟨a,la,ea,ha⟩:=hJ.l (hD 13 (by omega))
  have hc:=hJ.c
  rw[hD 15 (by omega),ea] at hc
  simp only[cond_true] at hc
  have hM:=hJ.m
  have q0:=cell_of hc 0
  have q1:=cell_of hc 1
  have q2:=cell_of hc 2
  have HF:=hid (And.intro la (And.intro ha hM))
  clear hD hJ ea hc la ha hM
  dsimp only[List.take,z1s,List.drop]
  go_wp2_with fail
  obtain⟨la,ha,hM⟩:=HF.out
  refine bodyPost_ret (v:=.agg #[(.slice (some ⟨g,ix * 2,none⟩) 2 (wc - ix)),.slice (some ⟨a,0,none⟩) 1 1,.int .i64 2]) ?hr (by kernel_rfl) ⟨a,rfl,ha,by omega,z0x HBL3.out hM (Nat.le_refl _) (by omega)⟩
  case hr=>simp[results,Tryz.results59,go_sem,q0,q1,q2]
def NoB (a:Option Addr) (v:Nat):Prop:=∀ n c k,(Value.slice a n c).ownBlock=some k->k≠v
def TurnF (k:Nat) (pt:ByteArray) (n v:Nat) (L:List Kd) (w1:World) (x:Value):Prop :=
 ∃ ya yc za zc,x=.tuple #[.agg #[.int .i64 k,.string ⟨#[]⟩,.string ⟨#[]⟩,.string pt,.slice ya n yc,.slice za n zc],.int .i64 0]/\O.NodeIn w1 k pt ya n yc za n zc L/\NoB ya v/\NoB za v
theorem z1a {L:List Kd}:GKeeps (TurnF k pt n v L) v:=by
 rintro wa wb x ⟨ya,yc,za,zc,e,h,h1,h2⟩ hM
 exact⟨ya,yc,za,zc,e,⟨O.z0h h.b hM (fun j hj e=>h1 _ _ j hj e),O.z0h h.z hM (fun j hj e=>h2 _ _ j hj e),h.k1,h.k2,h.p,h.len,h.rise,h.ok⟩,h1,h2⟩
theorem turnF_of {L:List Kd} {w1:World} {cs:Array Value} (h:O.NodeIn w1 k pt ya n yc za n zc L) (hv:w1.heap[v]?=some (.cells cs 102 (0,0))):TurnF k pt n v L w1 (.tuple #[.agg #[.int .i64 k,.string ⟨#[]⟩,.string ⟨#[]⟩,.string pt,.slice ya n yc,.slice za n zc],.int .i64 0]):=by
 refine⟨ya,yc,za,zc,rfl,h,fun a b j hj=>?_,fun a b j hj=>?_⟩
 ·exact O.z1m h.b hv (by decide) j (by
   cases ya with
   | none=>simp[Value.ownBlock] at hj
   | some q=>simpa[Value.ownBlock] using hj)
 ·exact O.z1m h.z hv (by decide) j (by
   cases za with
   | none=>simp[Value.ownBlock] at hj
   | some q=>simpa[Value.ownBlock] using hj)
def tupAt (x:Value) (i:Nat):Value:=match x with
 | .tuple vs=>vs.getD i undef
 | _=>undef
def tdT (j:Nat) (x:Value):Value:=match j with
 | 9=>tupAt x 0
 | 10=>tupAt x 1
 | _=>x
set_option maxRecDepth 20000 in
set_option maxHeartbeats 4000000 in
theorem kid_at {jj:Nat} {Lk:List Kd} {kk:Kd} (us ug fs fg ts tg:Int) (w:World) (h:TreeAt w t sb sg kb km l L tk) (hr:RoomsAt w)
 (hL:S.Live l us ug i ⟨true,⟨k,⟨#[]⟩,⟨#[]⟩,pt,⟨ya,yn,yc⟩,⟨za,zn,zc⟩,pl,di⟩,gn⟩) (hN:O.NodeIn w k pt ya yn yc za zn zc Lk) (hM:O.MayB k Lk.length pt)
 (hj:Lk[jj]?=some kk) (hf:z0p Lk kk.b=some kk) (hs:kk.s=fs) (hg:kk.g=fg) (hn:∀ i k,i<jj->Lk[i]?=some k->¬ (k.s=fs/\k.g=fg)) (hok:(⟨kk.b,ts,tg⟩:Kd).ok) :
 Calls Tryz.prog 38 #[.pointer (some ⟨t,0,none⟩),.agg #[.int .i64 us,.int .u32 ug],.agg #[.int .i64 fs,.int .u32 fg],.agg #[.int .i64 ts,.int .u32 tg]] w fun e w'=>∃ ya' yc' za' zc',e=.returned (.tuple #[]) /\
  TreeAt w' t sb sg kb km (l.set i ⟨true,⟨k,⟨#[]⟩,⟨#[]⟩,pt,⟨ya',Lk.length,yc'⟩,⟨za',Lk.length,zc'⟩,pl,di⟩,gn⟩) L tk/\O.NodeIn w' k pt ya' Lk.length yc' za' Lk.length zc' (z1t Lk kk.b ts tg)/\Mod (·=sg) w w':=by
 have hs1:(w.alloc (.cells #[.int .i64 us,.int .u32 ug] 36 (0,0))).heap.size=w.heap.size+1:=by simp
 have hs2:((w.alloc (.cells #[.int .i64 us,.int .u32 ug] 36 (0,0))).alloc (.cells #[.int .i64 fs,.int .u32 fg] 36 (0,0))).heap.size=w.heap.size+1+1:=by simp
 have b0:=z0c (o':=(.cells #[.int .i64 ts,.int .u32 tg] 36 (0,0))) (z0c (o':=(.cells #[.int .i64 fs,.int .u32 fg] 36 (0,0))) (z0a w (.cells #[.int .i64 us,.int .u32 ug] 36 (0,0))))
 have b1:=z0c (o':=(.cells #[.int .i64 ts,.int .u32 tg] 36 (0,0))) (z0a (w.alloc (.cells #[.int .i64 us,.int .u32 ug] 36 (0,0))) (.cells #[.int .i64 fs,.int .u32 fg] 36 (0,0)))
 have b2:=z0a ((w.alloc (.cells #[.int .i64 us,.int .u32 ug] 36 (0,0))).alloc (.cells #[.int .i64 fs,.int .u32 fg] 36 (0,0))) (.cells #[.int .i64 ts,.int .u32 tg] 36 (0,0))
 rw[hs1] at b1
 rw[hs2] at b2
 have hB:Below w.heap.size w (((w.alloc (.cells #[.int .i64 us,.int .u32 ug] 36 (0,0))).alloc (.cells #[.int .i64 fs,.int .u32 fg] 36 (0,0))).alloc (.cells #[.int .i64 ts,.int .u32 tg] 36 (0,0))):=(((Below.refl _ _).alloc (Nat.le_refl _) _).alloc (by simp) _).alloc (by simp;omega) _
 have hlt:t<w.heap.size/\sb<w.heap.size/\sg<w.heap.size/\kb<w.heap.size/\km<w.heap.size:=⟨lt_of_block h.ht,h.hs.blt,h.hs.glt,h.hk.lt.1,h.hk.lt.2⟩
 obtain rfl:zn=Lk.length:=O.z1u hN.z
 obtain rfl:yn=Lk.length:=O.z1u hN.b
 have hjl:jj<Lk.length:=(List.getElem?_eq_some_iff.1 hj).1
 obtain⟨gy,rfl,ly,cy⟩:=O.z0z hN.b (by omega)
 have hcy:=cy jj _ (bytesL_get hj)
 have HH:=hid h
 have HRM:=hid hr
 have HL:=hid hL
 have HN:=hid hN
 have HM:=hid hM
 have HJ0:=hid hj
 have HF:=hid hf
 have HSG:=hid (And.intro hs hg)
 have HNO:=hid hn
 have HOK:=hid hok
 have HLT:=hid hlt
 have HCY:=hid hcy
 have HND:=hid (node_at us ug (((w.alloc (.cells #[.int .i64 us,.int .u32 ug] 36 (0,0))).alloc (.cells #[.int .i64 fs,.int .u32 fg] 36 (0,0))).alloc (.cells #[.int .i64 ts,.int .u32 tg] 36 (0,0))) (h.keep hB) hL)
 clear h hr hL hN hM hj hf hs hg hn hok hlt cy hcy hs1 hs2
 go_enter Tryz.func38,Tryz.ntmps38
 go_wp2_with (first|(go_at_call 32;refine HND.out.mono ?_;rintro e w2 ⟨rfl,hb2⟩;go_loud (have hz2:w.heap.size+1+1+1<=w2.heap.size:=(by have:=hb2.size;simpa using this);have hv:=fun o=>z0a w2 o;have hb24:=fun o=>(Below.refl w2.heap.size w2).alloc (Nat.le_refl _) o;have n4:=cell_of (hv (.cells #[.int .i64 k,.string ⟨#[]⟩,.string ⟨#[]⟩,.string pt,.slice (some ⟨gy,0,none⟩) Lk.length yc,.slice za Lk.length zc] 102 (0,0))) 4;have n5:=cell_of (hv (.cells #[.int .i64 k,.string ⟨#[]⟩,.string ⟨#[]⟩,.string pt,.slice (some ⟨gy,0,none⟩) Lk.length yc,.slice za Lk.length zc] 102 (0,0))) 5;have hbw2:=hB.trans (hb2.mono hB.size);have h0:=(hb24 (.cells #[.int .i64 k,.string ⟨#[]⟩,.string ⟨#[]⟩,.string pt,.slice (some ⟨gy,0,none⟩) Lk.length yc,.slice za Lk.length zc] 102 (0,0))).block _ (by have:=hb2.block _ (lt_of_block b0);exact lt_of_block (this.trans b0));have HB4:=hid (hbw2.trans ((hb24 (.cells #[.int .i64 k,.string ⟨#[]⟩,.string ⟨#[]⟩,.string pt,.slice (some ⟨gy,0,none⟩) Lk.length yc,.slice za Lk.length zc] 102 (0,0))).mono hbw2.size));have HV4:=hid (hv (.cells #[.int .i64 k,.string ⟨#[]⟩,.string ⟨#[]⟩,.string pt,.slice (some ⟨gy,0,none⟩) Lk.length yc,.slice za Lk.length zc] 102 (0,0)));have hbW:=fun o=>hb2.trans ((hb24 o).mono hb2.size);have H0:=hid (((hbW (.cells #[.int .i64 k,.string ⟨#[]⟩,.string ⟨#[]⟩,.string pt,.slice (some ⟨gy,0,none⟩) Lk.length yc,.slice za Lk.length zc] 102 (0,0))).block _ (lt_of_block b0)).trans b0);have H1:=hid (((hbW (.cells #[.int .i64 k,.string ⟨#[]⟩,.string ⟨#[]⟩,.string pt,.slice (some ⟨gy,0,none⟩) Lk.length yc,.slice za Lk.length zc] 102 (0,0))).block _ (lt_of_block b1)).trans b1);have H2:=hid (((hbW (.cells #[.int .i64 k,.string ⟨#[]⟩,.string ⟨#[]⟩,.string pt,.slice (some ⟨gy,0,none⟩) Lk.length yc,.slice za Lk.length zc] 102 (0,0))).block _ (lt_of_block b2)).trans b2);have f0:=cell_of H1.out 0;have f1:=cell_of H1.out 1;have HIX:=hid (rIndex_at fs fg (w2.alloc (.cells #[.int .i64 k,.string ⟨#[]⟩,.string ⟨#[]⟩,.string pt,.slice (some ⟨gy,0,none⟩) Lk.length yc,.slice za Lk.length zc] 102 (0,0))) (HN.out.keep HB4.out).z HJ0.out HSG.out.1 HSG.out.2 HNO.out HN.out.room);clear hv hb24 hbw2 h0 hbW hb2))|(go_at_call 79;refine HIX.out.mono ?_;rintro e w5 ⟨rfl,hb5⟩;go_loud (have HB5:=hid (HB4.out.trans (hb5.mono HB4.out.size));have HV5:=hid ((hb5.block _ (lt_of_block HV4.out)).trans HV4.out);have H05:=hid ((hb5.block _ (lt_of_block H0.out)).trans H0.out);have H25:=hid ((hb5.block _ (lt_of_block H2.out)).trans H2.out);clear hb5)))
 have hvw:w.heap.size<=w2.heap.size:=by omega
 generalize w2.heap.size=vb at *
 have hzv:=lt_of_block HV5.out
 have hb5s:=HB5.out.size
 have hlt:=HLT.out
 have hwm:∀ w1,Mod (·=vb) w5 w1->Below w.heap.size w w1:=fun w1 hM=>z0x HB5.out hM hvw hb5s
 have hgy:∀ w1,Mod (·=vb) w5 w1->w1.cell? ⟨gy,jj,none⟩=some (.int .u8 kk.b):=fun w1 hM=>(World.cell?_of_block (w:=w) ((hwm w1 hM).block gy ly)).trans HCY.out
 have HWM:=hid hwm
 have HGY:=hid hgy
 clear hwm hgy f0 f1 n4 n5 HIX HND
 refine z0r 12 [7,8,9,10] (fun xs=>[(.agg #[.int .i64 k,.string ⟨#[]⟩,.string ⟨#[]⟩,.string pt,.slice (some ⟨gy,0,none⟩) Lk.length yc,.slice za Lk.length zc]),.pointer (some ⟨vb,4,none⟩),.slice (some ⟨gy,0,none⟩) Lk.length yc,.int .i64 jj,.pointer (some ⟨gy,jj,none⟩),.int .u8 kk.b,.agg #[.int .i64 ts,.int .u32 tg],xs 7,xs 8,xs 9,xs 10,undef]) (GJ 102 (TurnF k pt Lk.length vb (z1t Lk kk.b ts tg)) w5 vb 7 11 [] [8,9,10] [(7,0),(4,2),(5,2),(7,2)] (fun _=>undef) tdT #[.int .i64 k,.string ⟨#[]⟩,.string ⟨#[]⟩,.string pt,.slice (some ⟨gy,0,none⟩) Lk.length yc,.slice za Lk.length zc] (fun x=>match tupAt x 0 with | .agg cs=>cs|_=>#[])) ?h0 (fun xs ys h=>by simp[h]) ?hs ?hend
 case h0=>exact GJ.start HV5.out
 case hs =>
  dsimp only[List.take,z1c,OpT,z1s]
  (repeat' refine And.intro ?_ ?_)<;>first|refine .inl ⟨rfl,?_⟩|refine .inr ⟨rfl,?_⟩
  ·intro D xs w1 hDk hwt hJ
   have h11:D 11=false:=by
    cases e:D 11
    ·rfl
    ·have:=hJ.p 7 0 (by decide) (hJ.s e)
     rw[this] at hDk
     cases hDk
   have hc:=hJ.c
   rw[h11] at hc
   simp only[cond_false] at hc
   have q0:=cell_of hc 0;have q1:=cell_of hc 1;have q2:=cell_of hc 2;have q3:=cell_of hc 3;have q4:=cell_of hc 4;have q5:=cell_of hc 5;clear hc
   have HJ:=hid hJ
   clear hDk hwt hJ
   go_wp2_with fail
   refine⟨by kernel_rfl,?_⟩;(try intro _ _);exact GJ.calm z1a HJ.out (Below.refl _ _) (fun j h=>absurd h (by simp))
  ·intro D xs w1 hDk hwt hJ
   skip
   have HJ:=hid hJ
   clear hDk hwt hJ
   go_wp2_with fail
   refine⟨by kernel_rfl,?_⟩;(try intro _ _);exact GJ.calm z1a HJ.out (Below.refl _ _) (fun j h=>absurd h (by simp))
  ·intro D xs w1 hDk hwt hJ
   have h11:D 11=false:=by
    cases e:D 11
    ·rfl
    ·have:=hJ.p 7 2 (by decide) (hJ.s e)
     rw[this] at hDk
     cases hDk
   have hc:=hJ.c
   rw[h11] at hc
   simp only[cond_false] at hc
   have q0:=cell_of hc 0;have q1:=cell_of hc 1;have q2:=cell_of hc 2;have q3:=cell_of hc 3;have q4:=cell_of hc 4;have q5:=cell_of hc 5;clear hc
   have HJ:=hid hJ
   clear hDk hwt hJ
   go_wp2_with fail
   refine⟨by kernel_rfl,?_⟩;(try intro _ _);exact GJ.calm z1a HJ.out (Below.refl _ _) (fun j h=>absurd h (by simp))
  ·intro D xs w1 hDk hwt hJ
   skip
   have HJ:=hid hJ
   clear hDk hwt hJ
   go_wp2_with fail
   refine⟨by kernel_rfl,?_⟩;(try intro _ _);exact GJ.calm z1a HJ.out (Below.refl _ _) (fun j h=>absurd h (by simp))
  ·intro D xs w1 hDk hwt hJ
   skip
   have HJ:=hid hJ
   have HWT:=hid hwt
   clear hDk hwt hJ
   go_wp2_with fail
   refine⟨by kernel_rfl,?_⟩;(try intro _ _);exact GJ.calm z1a HJ.out (Below.refl _ _) (fun j' h=>by simp at h;subst h;exact HWT.out 2 (eM (by kernel_rfl)))
  ·intro D xs w1 hDk hwt hJ
   have g0:=HGY.out w1 hJ.m
   have HJ:=hid hJ
   have HWT:=hid hwt
   clear hDk hwt hJ
   go_wp2_with fail
   refine⟨by kernel_rfl,?_⟩;(try intro _ _);exact GJ.calm z1a HJ.out (Below.refl _ _) (fun j' h=>by simp at h;subst h;exact HJ.out.p 4 2 (by decide) (HWT.out 4 (eM (by kernel_rfl))))
  ·intro D xs w1 hDk hwt hJ
   have h2:=(hJ.m.block _ (lt_of_block H25.out) (by show ¬ _=_;omega)).trans H25.out;have t0:=cell_of h2 0;have t1:=cell_of h2 1
   have HJ:=hid hJ
   clear hDk hwt hJ
   go_wp2_with fail
   refine⟨by kernel_rfl,?_⟩;(try intro _ _);exact GJ.calm z1a HJ.out (Below.refl _ _) (fun j h=>absurd h (by simp))
  ·intro D xs w1 hDk hwt hJ
   have hD:D 7=false:=hDk
   have hwb:=HWM.out w1 hJ.m
   have HTN:=hid (O.Turn_at kk.b ts tg kk HOK.out HF.out (HN.out.keep hwb) (HRM.out.keep hwb) HM.out)
   have h11:D 11=false:=by
    cases e:D 11
    ·rfl
    ·rw[hJ.s e] at hD;cases hD
   have hc:=hJ.c
   rw[h11] at hc
   simp only[cond_false] at hc
   have HC:=hid hc
   have HJ:=hid hJ
   have HWT:=hid hwt
   clear hDk hwt hJ hwb hc
   go_wp2_with (go_at_call 80;refine HTN.out.mono ?_;rintro e w6 ⟨ya',yc',za',zc',rfl,hN6,hb6⟩)
   have hF6:=turnF_of hN6 ((hb6.block _ (lt_of_block HC.out)).trans HC.out)
   exact⟨_,by kernel_rfl,fun q hq=>by obtain rfl:=hq rfl;exact GJ.call HJ.out hD hF6 hb6 (fun j' h=>by simp at h;rcases h with rfl|rfl;exact HWT.out 0 (eM (by kernel_rfl));exact HJ.out.p 5 2 (by decide) (HWT.out 5 (eM (by kernel_rfl))))⟩
  ·intro D xs w1 hDk hwt hJ
   have h7:D 7=true:=hwt 7 (eM (by kernel_rfl))
   obtain⟨ya',yc',za',zc',ea,_⟩:=hJ.l h7
   have HEA:=hid ea
   rw[ea]
   have HJ:=hid hJ
   try clear e9
   clear hDk hwt hJ
   try clear ea
   go_wp2_with fail
   first|exact⟨_,by kernel_rfl,fun q hq=>by obtain rfl:=hq rfl;exact GJ.dep HJ.out h7 (by rw[HEA.out])⟩|exact⟨_,by kernel_rfl,GJ.dep HJ.out h7 (by rw[HEA.out])⟩
  iterate 2
   ·intro D xs w1 hDk hwt hJ
    obtain⟨h7,e8⟩:=hJ.e 8 (hwt 8 (eM (by kernel_rfl))) (by decide)
    obtain⟨ya',yc',za',zc',ea,_⟩:=hJ.l h7
    have e9:xs 8=.tuple #[.agg #[.int .i64 k,.string ⟨#[]⟩,.string ⟨#[]⟩,.string pt,.slice ya' Lk.length yc',.slice za' Lk.length zc'],.int .i64 0]:=by rw[e8,ea];rfl
    clear e8
    have HEA:=hid ea
    rw[e9]
    have HJ:=hid hJ
    try clear e9
    clear hDk hwt hJ
    try clear ea
    go_wp2_with fail
    first|exact⟨_,by kernel_rfl,fun q hq=>by obtain rfl:=hq rfl;exact GJ.dep HJ.out h7 (by rw[HEA.out])⟩|exact⟨_,by kernel_rfl,GJ.dep HJ.out h7 (by rw[HEA.out])⟩
  ·intro D xs w1 hDk hwt hJ
   have hD:D 11=false:=hDk
   obtain⟨h7,e8⟩:=hJ.e 9 (hwt 9 (eM (by kernel_rfl))) (by decide)
   obtain⟨ya',yc',za',zc',ea,_⟩:=hJ.l h7
   have e9:xs 9=.agg #[.int .i64 k,.string ⟨#[]⟩,.string ⟨#[]⟩,.string pt,.slice ya' Lk.length yc',.slice za' Lk.length zc']:=by rw[e8,ea];rfl
   have hc:=hJ.c
   rw[hD] at hc
   simp only[cond_false] at hc
   have HC:=hid hc
   have q0:=cell_of hc 0;have q1:=cell_of hc 1;have q2:=cell_of hc 2;have q3:=cell_of hc 3;have q4:=cell_of hc 4;have q5:=cell_of hc 5;clear hc
   have qf:=z0e HC.out
   have HJ:=hid hJ
   have HEA:=hid ea
   rw[e9]
   clear hDk hwt hJ ea e8 e9
   go_wp2_with fail
   obtain⟨m1,m2⟩:=O.set6_at (.int .i64 k) (.string ⟨#[]⟩) (.string ⟨#[]⟩) (.string pt) (.slice ya' Lk.length yc') (.slice za' Lk.length zc') HC.out
   exact⟨by kernel_rfl,fun q _=>GJ.store z1a HJ.out h7 m2 (by rw[HEA.out];exact m1)⟩
 case hend =>
  intro D xs w1 hD hJ
  obtain⟨ya',yc',za',zc',ea,hN6,_⟩:=hJ.l (hD 7 (by omega))
  have hc:=hJ.c
  rw[hD 11 (by omega),ea] at hc
  simp only[cond_true,tupAt] at hc
  have hM1:=hJ.m
  have hT1:=HH.out.keep (HWM.out w1 hM1)
  have HPS:=hid (pset_at us ug k ⟨#[]⟩ ⟨#[]⟩ pt ya' za' Lk.length yc' Lk.length zc' w1 hT1 HL.out)
  have hc2:w1.heap[vb]?=some (.cells #[.int .i64 k,.string ⟨#[]⟩,.string ⟨#[]⟩,.string pt,.slice ya' Lk.length yc',.slice za' Lk.length zc'] 102 (0,0)):=hc
  have q0:=cell_of hc2 0
  have q1:=cell_of hc2 1
  have q2:=cell_of hc2 2
  have q3:=cell_of hc2 3
  have q4:=cell_of hc2 4
  have q5:=cell_of hc2 5
  have h05:=(hM1.block _ (lt_of_block H05.out) (by show ¬ _=_;omega)).trans H05.out
  have u0:=cell_of h05 0
  have u1:=cell_of h05 1
  have HE:=hid (And.intro hN6 (And.intro hT1 (HWM.out w1 hM1)))
  clear hD hJ ea hc hc2 hM1 hT1 hN6 h05
  dsimp only[List.take,z1s,List.drop]
  go_wp2_with (go_at_call 33;refine HPS.out.mono ?_;rintro e w7 ⟨rfl,hT7,hM7⟩)
  go_end0
  obtain⟨hN6,hT1,hbw⟩:=HE.out
  have hno:∀ kb',kb'=sg->NoRow w1 kb':=fun kb' e=>hT1.noRow kb' (.inl e)
  exact⟨ya',yc',za',zc',rfl,hT7,⟨O.z0h hN6.b hM7 (fun kb' hk hs=>own_not hN6.b (.inl rfl) hk (hno kb' hs)),O.z0h hN6.z hM7 (fun kb' hk hs=>own_not hN6.z (.inr rfl) hk (hno kb' hs)),hN6.k1,hN6.k2,hN6.p,hN6.len,hN6.rise,hN6.ok⟩,(Mod.z0j (S:=(·=sg)) hbw).trans hM7 (fun _ _ h=>h)⟩
def z1p (x y:Kd):List Kd:=if x.b<y.b then [x,y] else [y,x]
theorem fork_end (p:ByteArray) (a b:Kd) (w:World) (hp:p.size<=34) (ha:a.ok) (hb:b.ok) (hlt:a.b<b.b) :
 (((((w.alloc (.cells #[.int .i64 a.s,.int .u32 a.g] 36 (0,0))).alloc (.cells #[.int .i64 b.s,.int .u32 b.g] 36 (0,0))).alloc (.cells #[.int .i64 2,.string ⟨#[]⟩,.string ⟨#[]⟩,.string p,.slice (some ⟨w.heap.size+1+1+1,0,none⟩) 2 2,.slice (some ⟨w.heap.size+1+1+1+1,0,none⟩) 2 2] 102 (0,0))).alloc (.cells #[.int .u8 a.b,.int .u8 b.b] 5 (0,0))).alloc (.cells #[.int .i64 a.s,.int .u32 a.g,.int .i64 b.s,.int .u32 b.g] 36 (0,0))).heap[w.heap.size+1+1]?=some (.cells #[.int .i64 2,.string ⟨#[]⟩,.string ⟨#[]⟩,.string p,.slice (some ⟨w.heap.size+1+1+1,0,none⟩) 2 2,.slice (some ⟨w.heap.size+1+1+1+1,0,none⟩) 2 2] 102 (0,0)) /\
  O.NodeIn (((((w.alloc (.cells #[.int .i64 a.s,.int .u32 a.g] 36 (0,0))).alloc (.cells #[.int .i64 b.s,.int .u32 b.g] 36 (0,0))).alloc (.cells #[.int .i64 2,.string ⟨#[]⟩,.string ⟨#[]⟩,.string p,.slice (some ⟨w.heap.size+1+1+1,0,none⟩) 2 2,.slice (some ⟨w.heap.size+1+1+1+1,0,none⟩) 2 2] 102 (0,0))).alloc (.cells #[.int .u8 a.b,.int .u8 b.b] 5 (0,0))).alloc (.cells #[.int .i64 a.s,.int .u32 a.g,.int .i64 b.s,.int .u32 b.g] 36 (0,0))) 2 p (some ⟨w.heap.size+1+1+1,0,none⟩) 2 2 (some ⟨w.heap.size+1+1+1+1,0,none⟩) 2 2 [a,b]/\Below w.heap.size w (((((w.alloc (.cells #[.int .i64 a.s,.int .u32 a.g] 36 (0,0))).alloc (.cells #[.int .i64 b.s,.int .u32 b.g] 36 (0,0))).alloc (.cells #[.int .i64 2,.string ⟨#[]⟩,.string ⟨#[]⟩,.string p,.slice (some ⟨w.heap.size+1+1+1,0,none⟩) 2 2,.slice (some ⟨w.heap.size+1+1+1+1,0,none⟩) 2 2] 102 (0,0))).alloc (.cells #[.int .u8 a.b,.int .u8 b.b] 5 (0,0))).alloc (.cells #[.int .i64 a.s,.int .u32 a.g,.int .i64 b.s,.int .u32 b.g] 36 (0,0))):=by
 generalize hn:(Obj.cells #[.int .i64 2,.string ⟨#[]⟩,.string ⟨#[]⟩,.string p,.slice (some ⟨w.heap.size+1+1+1,0,none⟩) 2 2,.slice (some ⟨w.heap.size+1+1+1+1,0,none⟩) 2 2] 102 (0,0))=no
 have s1:(w.alloc (.cells #[.int .i64 a.s,.int .u32 a.g] 36 (0,0))).heap.size=w.heap.size+1:=by simp
 have s2:((w.alloc (.cells #[.int .i64 a.s,.int .u32 a.g] 36 (0,0))).alloc (.cells #[.int .i64 b.s,.int .u32 b.g] 36 (0,0))).heap.size=w.heap.size+1+1:=by simp
 have s3:(((w.alloc (.cells #[.int .i64 a.s,.int .u32 a.g] 36 (0,0))).alloc (.cells #[.int .i64 b.s,.int .u32 b.g] 36 (0,0))).alloc no).heap.size=w.heap.size+1+1+1:=by simp
 have s4:((((w.alloc (.cells #[.int .i64 a.s,.int .u32 a.g] 36 (0,0))).alloc (.cells #[.int .i64 b.s,.int .u32 b.g] 36 (0,0))).alloc no).alloc (.cells #[.int .u8 a.b,.int .u8 b.b] 5 (0,0))).heap.size=w.heap.size+1+1+1+1:=by simp
 have b2:=z0c (o':=.cells #[.int .i64 a.s,.int .u32 a.g,.int .i64 b.s,.int .u32 b.g] 36 (0,0)) (z0c (o':=.cells #[.int .u8 a.b,.int .u8 b.b] 5 (0,0)) (z0a ((w.alloc (.cells #[.int .i64 a.s,.int .u32 a.g] 36 (0,0))).alloc (.cells #[.int .i64 b.s,.int .u32 b.g] 36 (0,0))) no))
 have b3:=z0c (o':=.cells #[.int .i64 a.s,.int .u32 a.g,.int .i64 b.s,.int .u32 b.g] 36 (0,0)) (z0a (((w.alloc (.cells #[.int .i64 a.s,.int .u32 a.g] 36 (0,0))).alloc (.cells #[.int .i64 b.s,.int .u32 b.g] 36 (0,0))).alloc no) (.cells #[.int .u8 a.b,.int .u8 b.b] 5 (0,0)))
 have b4:=z0a ((((w.alloc (.cells #[.int .i64 a.s,.int .u32 a.g] 36 (0,0))).alloc (.cells #[.int .i64 b.s,.int .u32 b.g] 36 (0,0))).alloc no).alloc (.cells #[.int .u8 a.b,.int .u8 b.b] 5 (0,0))) (.cells #[.int .i64 a.s,.int .u32 a.g,.int .i64 b.s,.int .u32 b.g] 36 (0,0))
 rw[s2] at b2
 rw[s3] at b3
 rw[s4] at b4
 refine⟨b2,⟨⟨rfl,.inr ⟨_,2,_,rfl,Nat.zero_le _,b3,Nat.le_refl _,by simp[maxLen],rfl,rfl⟩⟩,⟨rfl,.inr ⟨_,2,_,rfl,Nat.zero_le _,b4,Nat.le_refl _,by simp[maxLen],rfl,rfl⟩⟩,by omega,by omega,hp,by simp[z0v],?_,?_⟩,?_⟩
 ·exact List.pairwise_cons.2 ⟨fun c hc=>by simp at hc;subst hc;exact hlt,List.pairwise_singleton _ _⟩
 ·intro c hc
  simp at hc
  rcases hc with rfl|rfl
  ·exact ha
  ·exact hb
 ·exact (((((Below.refl _ _).alloc (Nat.le_refl _) _).alloc (by simp) _).alloc (by simp;omega) _).alloc (by simp;omega) _).alloc (by simp;omega) _
set_option maxHeartbeats 2000000 in
theorem nfork_at (p:ByteArray) (x y:Kd) (w:World) (hp:p.size<=34) (hx:x.ok) (hy:y.ok) (hne:x.b≠y.b) :
 Calls Tryz.prog 72 #[.string p,.int .u8 x.b,.agg #[.int .i64 x.s,.int .u32 x.g],.int .u8 y.b,.agg #[.int .i64 y.s,.int .u32 y.g]] w fun e w'=>∃ gb gk,e=.returned (.agg #[.int .i64 2,.string ⟨#[]⟩,.string ⟨#[]⟩,.string p,.slice (some ⟨gb,0,none⟩) 2 2,.slice (some ⟨gk,0,none⟩) 2 2]) /\
  O.NodeIn w' 2 p (some ⟨gb,0,none⟩) 2 2 (some ⟨gk,0,none⟩) 2 2 (z1p x y)/\Below w.heap.size w w'/\w.heap.size<=gb/\w.heap.size<=gk:=by
 have hs1:(w.alloc (.cells #[.int .i64 x.s,.int .u32 x.g] 36 (0,0))).heap.size=w.heap.size+1:=by simp
 have b0:=z0c (o':=(.cells #[.int .i64 0,.string ⟨#[]⟩,.string ⟨#[]⟩,.string ⟨#[]⟩,.slice none 0 0,.slice none 0 0] 102 (0,0))) (z0c (o':=(.cells #[.int .i64 y.s,.int .u32 y.g] 36 (0,0))) (z0a w (.cells #[.int .i64 x.s,.int .u32 x.g] 36 (0,0))))
 have b1:=z0c (o':=(.cells #[.int .i64 0,.string ⟨#[]⟩,.string ⟨#[]⟩,.string ⟨#[]⟩,.slice none 0 0,.slice none 0 0] 102 (0,0))) (z0a (w.alloc (.cells #[.int .i64 x.s,.int .u32 x.g] 36 (0,0))) (.cells #[.int .i64 y.s,.int .u32 y.g] 36 (0,0)))
 rw[hs1] at b1
 rcases Int.lt_trichotomy x.b y.b with hlt|heq|hgt
 ·have d1:decide (x.b > y.b)=false:=by simp;omega
  go_enter Tryz.func72,Tryz.ntmps72
  go_wp2_with fail
  obtain⟨m1,m2,m3⟩:=fork_end p x y w hp hx hy hlt
  have ek:z1p x y=[x,y]:=if_pos hlt
  rw[ek]
  obtain⟨fs,hus⟩:∃ fs,Tryz.prog.underlying 102=some (.struct fs):=⟨_,rfl⟩
  exact bodyPost_ret (results_cell_row rfl _ _ (w.heap.size+1+1) _ _ _ _ rfl m1 hus rfl (by kernel_rfl)) rfl ⟨_,_,rfl,m2,m3,by omega,by omega⟩
 ·exact absurd heq hne
 ·have d1:decide (x.b > y.b)=true:=by simp;omega
  have a0:=cell_of b0 0
  have a1:=cell_of b0 1
  have c0:=cell_of b1 0
  have c1:=cell_of b1 1
  go_enter Tryz.func72,Tryz.ntmps72
  go_wp2_with fail
  go_region
  go_wp2_with fail
  obtain⟨m1,m2,m3⟩:=fork_end p y x w hp hy hx hgt
  have ek:z1p x y=[y,x]:=if_neg (by omega)
  rw[ek]
  obtain⟨fs,hus⟩:∃ fs,Tryz.prog.underlying 102=some (.struct fs):=⟨_,rfl⟩
  exact bodyPost_ret (results_cell_row rfl _ _ (w.heap.size+1+1) _ _ _ _ rfl m1 hus rfl (by kernel_rfl)) rfl ⟨_,_,rfl,m2.keep ((Below.refl _ _).drew),m3.drew,by omega,by omega⟩
end Go.Proofs.YtgdmfledhhoedaaGreatDoor.T
