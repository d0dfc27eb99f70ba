/- Part 8 of 27. -/
import Derived.Test.YtgdmfledhhoedaaGreatDoorD07
import Derived.Test.YtgdmfledhhoedaaGreatDoorRows
import Derived.Test.YtgdmfledhhoedaaGreatDoorD02
import Derived.Test.YtgdmfledhhoedaaGreatDoorD01
import Derived.Deep.QuietTactic
import Derived.OwnWalk
import Derived.Laws.Bits64b
import Derived.Laws.BitsAllLaws
import Derived.WalkSpells
namespace Go.Proofs.YtgdmfledhhoedaaGreatDoor.O
set_option maxRecDepth 8000
open Go.ChangeShapes Go.WideShapes Go.ChangeAt Go.RowKit Go.Burg
section
variable {w w':World} {k:Nat} {pt:ByteArray} {ya za:Option Addr} {yn yc zn zc:Nat} {L:List Kd}
set_option maxRecDepth 20000 in
set_option maxHeartbeats 4000000 in
theorem Turn_at (y s g:Int) (kk:Kd) (hkd:(⟨y,s,g⟩:Kd).ok) (hf:z0p L y=some kk) (h:NodeIn w k pt ya yn yc za zn zc L) (hr:RoomsAt w) (hm:MayB k zn pt) :
 Calls Tryz.prog 80 #[(.agg #[.int .i64 k,.string ⟨#[]⟩,.string ⟨#[]⟩,.string pt,.slice ya yn yc,.slice za zn zc]),.int .u8 y,.agg #[.int .i64 s,.int .u32 g]] w fun e w'=>∃ ya' yc' za' zc',e=.returned (.tuple #[.agg #[.int .i64 k,.string ⟨#[]⟩,.string ⟨#[]⟩,.string pt,.slice ya' L.length yc',.slice za' L.length zc'],.int .i64 0]) /\
  NodeIn w' k pt ya' L.length yc' za' L.length zc' (z1t L y s g)/\Below w.heap.size w w':=by
 have hnf:∀ (w:World) (b:Nat),(nilAhead 410 229 (.pointer (some ⟨b,0,none⟩)) "Turn").run Tryz.prog w=.ok (some false) w:=fun w b=>by kernel_rfl
 have hnm:∀ (w:World) (b:Nat),(nilAhead 410 232 (.pointer (some ⟨b,0,none⟩)) "Turn").run Tryz.prog w=.ok (some false) w:=fun w b=>by kernel_rfl
 have hmt:∀ (w:World) (b:Nat),(method 410 229 (.pointer (some ⟨b,0,none⟩)) "Turn").run Tryz.prog w=.ok (188,.pointer (some ⟨b,0,none⟩)) w:=fun w b=>by kernel_rfl
 have hmu:∀ (w:World) (b:Nat),(method 410 232 (.pointer (some ⟨b,0,none⟩)) "Turn").run Tryz.prog w=.ok (202,.pointer (some ⟨b,0,none⟩)) w:=fun w b=>by kernel_rfl
 have hs1:(w.alloc (.cells #[.int .i64 k,.string ⟨#[]⟩,.string ⟨#[]⟩,.string pt,.slice ya yn yc,.slice za zn zc] 102 (0,0))).heap.size=w.heap.size+1:=by simp
 have hs2:((w.alloc (.cells #[.int .i64 k,.string ⟨#[]⟩,.string ⟨#[]⟩,.string pt,.slice ya yn yc,.slice za zn zc] 102 (0,0))).alloc (.cells #[.int .i64 s,.int .u32 g] 36 (0,0))).heap.size=w.heap.size+1+1:=by simp
 have hs3:(((w.alloc (.cells #[.int .i64 k,.string ⟨#[]⟩,.string ⟨#[]⟩,.string pt,.slice ya yn yc,.slice za zn zc] 102 (0,0))).alloc (.cells #[.int .i64 s,.int .u32 g] 36 (0,0))).alloc (.cells #[.int .i64 0,.string ⟨#[]⟩,.string ⟨#[]⟩,.string ⟨#[]⟩,.slice none 0 0,.slice none 0 0] 102 (0,0))).heap.size=w.heap.size+1+1+1:=by simp
 have b0:=z0m (o':=(.cells #[.int .i64 k,.string ⟨#[]⟩,.string ⟨#[]⟩,.string pt,.slice ya yn yc,.slice za zn zc] 165 (0,0))) (z0m (o':=(.cells #[.int .i64 0,.string ⟨#[]⟩,.string ⟨#[]⟩,.string ⟨#[]⟩,.slice none 0 0,.slice none 0 0] 102 (0,0))) (z0m (o':=(.cells #[.int .i64 s,.int .u32 g] 36 (0,0))) (z0a w (.cells #[.int .i64 k,.string ⟨#[]⟩,.string ⟨#[]⟩,.string pt,.slice ya yn yc,.slice za zn zc] 102 (0,0)))))
 have b1:=z0m (o':=(.cells #[.int .i64 k,.string ⟨#[]⟩,.string ⟨#[]⟩,.string pt,.slice ya yn yc,.slice za zn zc] 165 (0,0))) (z0m (o':=(.cells #[.int .i64 0,.string ⟨#[]⟩,.string ⟨#[]⟩,.string ⟨#[]⟩,.slice none 0 0,.slice none 0 0] 102 (0,0))) (z0a (w.alloc (.cells #[.int .i64 k,.string ⟨#[]⟩,.string ⟨#[]⟩,.string pt,.slice ya yn yc,.slice za zn zc] 102 (0,0))) (.cells #[.int .i64 s,.int .u32 g] 36 (0,0))))
 have b2:=z0m (o':=(.cells #[.int .i64 k,.string ⟨#[]⟩,.string ⟨#[]⟩,.string pt,.slice ya yn yc,.slice za zn zc] 165 (0,0))) (z0a ((w.alloc (.cells #[.int .i64 k,.string ⟨#[]⟩,.string ⟨#[]⟩,.string pt,.slice ya yn yc,.slice za zn zc] 102 (0,0))).alloc (.cells #[.int .i64 s,.int .u32 g] 36 (0,0))) (.cells #[.int .i64 0,.string ⟨#[]⟩,.string ⟨#[]⟩,.string ⟨#[]⟩,.slice none 0 0,.slice none 0 0] 102 (0,0)))
 have b3:=z0a (((w.alloc (.cells #[.int .i64 k,.string ⟨#[]⟩,.string ⟨#[]⟩,.string pt,.slice ya yn yc,.slice za zn zc] 102 (0,0))).alloc (.cells #[.int .i64 s,.int .u32 g] 36 (0,0))).alloc (.cells #[.int .i64 0,.string ⟨#[]⟩,.string ⟨#[]⟩,.string ⟨#[]⟩,.slice none 0 0,.slice none 0 0] 102 (0,0))) (.cells #[.int .i64 k,.string ⟨#[]⟩,.string ⟨#[]⟩,.string pt,.slice ya yn yc,.slice za zn zc] 165 (0,0))
 rw[hs1] at b1
 rw[hs2] at b2
 rw[hs3] at b3
 have hB:Below w.heap.size w ((((w.alloc (.cells #[.int .i64 k,.string ⟨#[]⟩,.string ⟨#[]⟩,.string pt,.slice ya yn yc,.slice za zn zc] 102 (0,0))).alloc (.cells #[.int .i64 s,.int .u32 g] 36 (0,0))).alloc (.cells #[.int .i64 0,.string ⟨#[]⟩,.string ⟨#[]⟩,.string ⟨#[]⟩,.slice none 0 0,.slice none 0 0] 102 (0,0))).alloc (.cells #[.int .i64 k,.string ⟨#[]⟩,.string ⟨#[]⟩,.string pt,.slice ya yn yc,.slice za zn zc] 165 (0,0))):=((((Below.refl _ _).alloc (Nat.le_refl _) _).alloc (by simp) _).alloc (by simp;omega) _).alloc (by simp;omega) _
 have HM:=hid (may_at (h.keep hB) (hr.keep hB) hm)
 have HR0:=hid hr
 have HI0:=hid h
 have HF:=hid hf
 have HKD:=hid hkd
 clear h hr hm hf hkd
 go_enter Tryz.func80,Tryz.ntmps80
 go_wp2_with fail
 have hK2:=HI0.out.k2
 generalize hWl:((((w.alloc (.cells #[.int .i64 k,.string ⟨#[]⟩,.string ⟨#[]⟩,.string pt,.slice ya yn yc,.slice za zn zc] 102 (0,0))).alloc (.cells #[.int .i64 s,.int .u32 g] 36 (0,0))).alloc (.cells #[.int .i64 0,.string ⟨#[]⟩,.string ⟨#[]⟩,.string ⟨#[]⟩,.slice none 0 0,.slice none 0 0] 102 (0,0))).alloc (.cells #[.int .i64 k,.string ⟨#[]⟩,.string ⟨#[]⟩,.string pt,.slice ya yn yc,.slice za zn zc] 165 (0,0)))=Wl at *
 generalize hu:w.heap.size=u at *
 refine HM.out.mono ?_
 rintro e w2 ⟨rfl,hB2⟩
 have H0:=hid ((hB2.block _ (lt_of_block b0)).trans b0)
 have H1:=hid ((hB2.block _ (lt_of_block b1)).trans b1)
 have H2:=hid ((hB2.block _ (lt_of_block b2)).trans b2)
 have H3:=hid ((hB2.block _ (lt_of_block b3)).trans b3)
 have hbb:=hB.trans (hB2.mono (by have:=hB.size;omega))
 have HU:=hid hu
 have HKA:=hid (kid_at s g w2 HKD.out.2.1 HKD.out.2.2.1)
 have r0:=cell_of H1.out 0
 have r1:=cell_of H1.out 1
 have HBB:=hid hbb
 clear hB2 hB b0 b1 b2 b3 HM hWl hs1 hs2 hs3 hu hbb
 go_wp2_with (go_at_call 74;refine HKA.out.mono ?_;rintro e w3 ⟨rfl,hB3⟩)
 have hB3':=HBB.out.trans (hB3.mono (by have:=HBB.out.size;have:=HU.out;omega))
 have H0:=hid ((hB3.block _ (lt_of_block H0.out)).trans H0.out)
 have H1:=hid ((hB3.block _ (lt_of_block H1.out)).trans H1.out)
 have H2:=hid ((hB3.block _ (lt_of_block H2.out)).trans H2.out)
 have H3:=hid ((hB3.block _ (lt_of_block H3.out)).trans H3.out)
 have HBB:=hid hB3'
 have HLT:=hid (lt_of_block H2.out)
 have HLT3:=hid (lt_of_block H3.out)
 have HR2:=hid (HR0.out.keep (by rw[HU.out];exact HBB.out))
 clear hB3 hB3' r0 r1 HKA
 refine z0r 5 [4] (fun xs=>[(.agg #[.int .i64 k,.string ⟨#[]⟩,.string ⟨#[]⟩,.string pt,.slice ya yn yc,.slice za zn zc]),.pointer (some ⟨u,0,none⟩),.int .i64 k,.int .i64 (z0v k),xs 4]) (LJ w3 (u+1+1) 4 99 L (z0v k) [] (fun _=>undef) (.cells #[.int .i64 0,.string ⟨#[]⟩,.string ⟨#[]⟩,.string ⟨#[]⟩,.slice none 0 0,.slice none 0 0] 102 (0,0)) (.cells #[.int .i64 0,.string ⟨#[]⟩,.string ⟨#[]⟩,.string ⟨#[]⟩,.slice none 0 0,.slice none 0 0] 102 (0,0))) ?h0 (fun xs ys h=>by simp[h]) ?hs ?hend
 case h0=>exact LJ.start H2.out
 case hs =>
  dsimp only[List.take,z1c,OpT,z1s]
  (repeat' refine And.intro ?_ ?_)<;>first|refine .inl ⟨rfl,?_⟩|refine .inr ⟨rfl,?_⟩
  iterate 3
   ·intro D xs w1 hDk hwt hJ
    have hk0:=(hJ.m.block u (lt_of_block H0.out) (by show ¬ u=u+1+1;omega)).trans H0.out
    have hk2:=(hJ.m.block (u+1+1+1) (lt_of_block H3.out) (by show ¬ u+1+1+1=u+1+1;omega)).trans H3.out
    have q0:=cell_of hk0 0
    have p0:=cell_of hk2 0
    have p1:=cell_of hk2 1
    have p2:=cell_of hk2 2
    have p3:=cell_of hk2 3
    have p4:=cell_of hk2 4
    have p5:=cell_of hk2 5
    have HJ:=hid hJ
    clear hDk hwt hJ hk0 hk2
    go_wp2_with fail
    exact⟨by kernel_rfl,fun _ _=>HJ.out.calm HLT.out (Below.refl _ _)⟩
  ·intro D xs w1 hDk hwt hJ
   have HRM:=hid (room_at k hK2 w1 (HR2.out.same (hJ.m.block 0 HR2.out.lt (by show ¬ 0=u+1+1;omega))))
   have HJ:=hid hJ
   clear hDk hwt hJ
   go_wp2_with (go_at_call 77;refine HRM.out.mono ?_;rintro e w3 ⟨rfl,rfl⟩)
   exact⟨by kernel_rfl,fun _ _=>HJ.out.calm HLT.out (Below.refl _ _)⟩
  ·intro D xs w1 hDk hwt hJ
   have hb1:Below w.heap.size w w1:=by
    rw[HU.out]
    exact HBB.out.trans ⟨hJ.m.os,hJ.m.tape,hJ.m.output,hJ.m.size,fun i hi=>hJ.m.block i (by have:=HLT.out;omega) (by show ¬ i=u+1+1;omega)⟩
   have HLD:=hid (laid_at (z0v k) (HI0.out.keep hb1) (roomOf_four HI0.out.k1 HI0.out.k2) HI0.out.len)
   have HJ:=hid hJ
   clear hDk hwt hJ hb1
   go_wp2_with (go_at_call 76;refine HLD.out.mono ?_;rintro e w3 ⟨v,rfl,hK,hb⟩)
   exact⟨v,by kernel_rfl,fun q hq=>by obtain rfl:=hq rfl;exact HJ.out.laid hK hb⟩
 case hend =>
  intro D xs w4 hD hJ
  dsimp only[List.take,z1s,List.drop]
  have hK:=hJ.l (hD 4 (by omega))
  have hM:=hJ.m
  have hbl:Below w3.heap.size w3 w4\/True:=.inr trivial
  generalize xs 4=v4 at *
  clear hbl
  have hb4:Below u w w4:=HBB.out.trans ⟨hM.os,hM.tape,hM.output,hM.size,fun i hi=>hM.block i (by have:=HLT.out;omega) (by show ¬ i=u+1+1;omega)⟩
  have h0:=(hM.block u (lt_of_block H0.out) (by show ¬ u=u+1+1;omega)).trans H0.out
  have h1:=(hM.block (u+1) (lt_of_block H1.out) (by show ¬ u+1=u+1+1;omega)).trans H1.out
  have h3:=(hM.block (u+1+1+1) (lt_of_block H3.out) (by show ¬ u+1+1+1=u+1+1;omega)).trans H3.out
  have h2:=hJ.c
  simp only[Bool.cond_self] at h2
  have r0:=cell_of h1 0
  have r1:=cell_of h1 1
  have G0:=hid h0
  have G2:=hid h2
  have G3:=hid h3
  have HB4:=hid hb4
  clear hD hJ hM h0 h1 h2 h3 hb4 H0 H1 H2 H3 HBB
  rcases hK with ⟨x,hx,rfl,hF⟩|⟨x,gr,gu,hx,rfl,hF⟩
  ·have HT:=hid (F.fTurn_L y s g kk w4 hF HF.out)
   clear hF
   have hS:∀ i,i<u+1+1+1+1->¬ i=x:=fun i hi=>by have:=HLT3.out;omega
   go_wp2_with (first|(go_at_call 188;refine HT.out.mono ?_;rintro e w5 ⟨rfl,hF5,hM5⟩;go_loud (have hb5:Below u w w5:=HB4.out.trans ⟨hM5.os,hM5.tape,hM5.output,hM5.size,fun i hi=>hM5.block i (by have:=lt_of_block G0.out;omega) (hS i (by omega))⟩;have h0:=(hM5.block u (lt_of_block G0.out) (hS u (by omega))).trans G0.out;have h2:=(hM5.block (u+1+1) (lt_of_block G2.out) (hS _ (by omega))).trans G2.out;have h3:=(hM5.block (u+1+1+1) (lt_of_block G3.out) (hS _ (by omega))).trans G3.out;have q0:=cell_of h0 0;have p0:=cell_of h3 0;have p1:=cell_of h3 1;have p2:=cell_of h3 2;have p3:=cell_of h3 3;have p4:=cell_of h3 4;have p5:=cell_of h3 5;have HOF:=hid (of_any (w:=w5) (k:=k) (k':=k) (pt:=pt) (ya:=ya) (yn:=yn) (yc:=yc) (za:=za) (zn:=zn) (zc:=zc) (L:=z1t L y s g) (by rw[z2f];exact HI0.out.room) (.inl ⟨x,z0v k,rfl,hF5⟩));have G2b:=hid h2;have HB5:=hid hb5;clear hF5 hM5 hb5 h0 h2 h3 HT))|(go_at_call 78;refine HOF.out.mono ?_;rintro e w6 ⟨ya',yc',za',zc',rfl,oy,oz,hB6⟩;go_loud (rw[z2f] at oy oz ⊢;have h2:=(hB6.block _ (lt_of_block G2b.out)).trans G2b.out;have t0:=cell_of h2 0;have t1:=cell_of h2 1;have t2:=cell_of h2 2;have t3:=cell_of h2 3;have t4:=cell_of h2 4;have t5:=cell_of h2 5;have tf:=z0e h2;have G2c:=hid h2;have OY:=hid oy;have OZ:=hid oz;have HB6:=hid (HB5.out.trans (hB6.mono (by have:=HB5.out.size;have:=HU.out;omega)));clear h2 oy oz hB6 HOF)))
   obtain⟨l1,l2⟩:=set6_at (.int .i64 k) (.string ⟨#[]⟩) (.string ⟨#[]⟩) (.string pt) (.slice ya' L.length yc') (.slice za' L.length zc') G2c.out
   obtain⟨fs,hus⟩:∃ fs,Tryz.prog.underlying 102=some (.struct fs):=⟨_,rfl⟩
   refine bodyPost_ret (z1v rfl _ _ (u+1+1) _ _ _ _ rfl l1 hus rfl (by kernel_rfl)) rfl ⟨ya',yc',za',zc',rfl,⟨?_,?_,HI0.out.k1,HI0.out.k2,HI0.out.p,?_,turnK_rise HI0.out.rise _ _ _,turnK_ok HI0.out.ok HKD.out⟩,?_⟩
   ·rw[z2f];exact z0h OY.out l2 (z1m OY.out G2c.out (by decide))
   ·rw[z2f];exact z0h OZ.out l2 (z1m OZ.out G2c.out (by decide))
   ·rw[z2f];exact HI0.out.len
   ·rw[HU.out];exact HB6.out.trans ⟨l2.os,l2.tape,l2.output,l2.size,fun i hi=>l2.block i (by have:=lt_of_block G2c.out;omega) (by show ¬ i=u+1+1;omega)⟩
  ·have HT:=hid (M.turn_L y s g kk hF HF.out)
   clear hF
   have hS:∀ i,i<u+1+1+1+1->¬ MOwn x gr gu i:=fun i hi=>by have:=HLT3.out;rintro (e|e|e)<;>omega
   go_wp2_with (first|(go_at_call 202;refine HT.out.mono ?_;rintro e w5 ⟨rfl,hF5,hM5⟩;go_loud (have hb5:Below u w w5:=HB4.out.trans ⟨hM5.os,hM5.tape,hM5.output,hM5.size,fun i hi=>hM5.block i (by have:=lt_of_block G0.out;omega) (hS i (by omega))⟩;have h0:=(hM5.block u (lt_of_block G0.out) (hS u (by omega))).trans G0.out;have h2:=(hM5.block (u+1+1) (lt_of_block G2.out) (hS _ (by omega))).trans G2.out;have h3:=(hM5.block (u+1+1+1) (lt_of_block G3.out) (hS _ (by omega))).trans G3.out;have q0:=cell_of h0 0;have p0:=cell_of h3 0;have p1:=cell_of h3 1;have p2:=cell_of h3 2;have p3:=cell_of h3 3;have p4:=cell_of h3 4;have p5:=cell_of h3 5;have HOF:=hid (of_any (w:=w5) (k:=k) (k':=k) (pt:=pt) (ya:=ya) (yn:=yn) (yc:=yc) (za:=za) (zn:=zn) (zc:=zc) (L:=z1t L y s g) (by rw[z2f];exact HI0.out.room) (.inr ⟨x,gr,gu,z0v k,rfl,⟨by obtain⟨M,h1,h2⟩:=hF5.m;exact⟨M,h1,h2.l⟩⟩⟩));have G2b:=hid h2;have HB5:=hid hb5;clear hF5 hM5 hb5 h0 h2 h3 HT))|(go_at_call 78;refine HOF.out.mono ?_;rintro e w6 ⟨ya',yc',za',zc',rfl,oy,oz,hB6⟩;go_loud (rw[z2f] at oy oz ⊢;have h2:=(hB6.block _ (lt_of_block G2b.out)).trans G2b.out;have t0:=cell_of h2 0;have t1:=cell_of h2 1;have t2:=cell_of h2 2;have t3:=cell_of h2 3;have t4:=cell_of h2 4;have t5:=cell_of h2 5;have tf:=z0e h2;have G2c:=hid h2;have OY:=hid oy;have OZ:=hid oz;have HB6:=hid (HB5.out.trans (hB6.mono (by have:=HB5.out.size;have:=HU.out;omega)));clear h2 oy oz hB6 HOF)))
   obtain⟨l1,l2⟩:=set6_at (.int .i64 k) (.string ⟨#[]⟩) (.string ⟨#[]⟩) (.string pt) (.slice ya' L.length yc') (.slice za' L.length zc') G2c.out
   obtain⟨fs,hus⟩:∃ fs,Tryz.prog.underlying 102=some (.struct fs):=⟨_,rfl⟩
   refine bodyPost_ret (z1v rfl _ _ (u+1+1) _ _ _ _ rfl l1 hus rfl (by kernel_rfl)) rfl ⟨ya',yc',za',zc',rfl,⟨?_,?_,HI0.out.k1,HI0.out.k2,HI0.out.p,?_,turnK_rise HI0.out.rise _ _ _,turnK_ok HI0.out.ok HKD.out⟩,?_⟩
   ·rw[z2f];exact z0h OY.out l2 (z1m OY.out G2c.out (by decide))
   ·rw[z2f];exact z0h OZ.out l2 (z1m OZ.out G2c.out (by decide))
   ·rw[z2f];exact HI0.out.len
   ·rw[HU.out];exact HB6.out.trans ⟨l2.os,l2.tape,l2.output,l2.size,fun i hi=>l2.block i (by have:=lt_of_block G2c.out;omega) (by show ¬ i=u+1+1;omega)⟩
end
def kOf (a:Bool) (k n:Nat):Nat:=bif a then k else kindOf n
variable {cs:Array Value} {k n:Nat}
section
variable {w w':World} {k k':Nat} {pt:ByteArray} {ya za:Option Addr} {yn yc zn zc:Nat} {L:List Kd}
theorem kind_at (n:Nat) (a:Bool) (w:World) (hr:RoomsAt w) (hn:n<=100000):Calls Tryz.prog 75 #[(.agg #[.int .i64 k,.string ⟨#[]⟩,.string ⟨#[]⟩,.string pt,.slice ya yn yc,.slice za zn zc]),.int .i64 n,.bool a] w fun e w'=>e=.returned (.int .i64 (kOf a k n))/\Below w.heap.size w w':=by
 have hB:Below w.heap.size w (w.alloc (.cells #[.int .i64 k,.string ⟨#[]⟩,.string ⟨#[]⟩,.string pt,.slice ya yn yc,.slice za zn zc] 165 (0,0))):=(Below.refl _ _).alloc (Nat.le_refl _) _
 have HB:=hid hB
 have HO:=hid (of_at n _ (hr.alloc (.cells #[.int .i64 k,.string ⟨#[]⟩,.string ⟨#[]⟩,.string pt,.slice ya yn yc,.slice za zn zc] 165 (0,0))) hn)
 have b0:=cell_of (z0a w (.cells #[.int .i64 k,.string ⟨#[]⟩,.string ⟨#[]⟩,.string pt,.slice ya yn yc,.slice za zn zc] 165 (0,0))) 0
 clear hB hr
 cases a
 ·go_enter Tryz.func75,Tryz.ntmps75
  go_wp2_with (go_at_call 105;refine HO.out.mono ?_;rintro e w2 ⟨rfl,rfl⟩)
  go_ret
  exact⟨rfl,HB.out⟩
 ·go_enter Tryz.func75,Tryz.ntmps75
  go_wp2_with fail
  go_ret
  exact⟨rfl,HB.out⟩
def OfG (k':Nat) (pt:ByteArray) (n:Nat) (L:List Kd) (w:World) (cs:Array Value):Prop :=
 ∃ ya yc za zc,cs=#[.int .i64 k',.string ⟨#[]⟩,.string ⟨#[]⟩,.string pt,.slice ya n yc,.slice za n zc]/\w.ownsRow 0 5 1 (.slice ya n yc) n (bytesL L)/\w.ownsRow 0 36 2 (.slice za n zc) n (z2v L)
theorem OfG.mod {c:Nat} {cc:Array Value} (h:OfG k' pt n L w cs) (hc:w.heap[c]?=some (.cells cc 102 (0,0))) (hm:Mod (·=c) w w'):OfG k' pt n L w' cs:=by
 obtain⟨a,b,c',d,e,h1,h2⟩:=h
 exact⟨a,b,c',d,e,z0h h1 hm (z1m h1 hc (by decide)),z0h h2 hm (z1m h2 hc (by decide))⟩
structure CJ (W0:World) (c4 i9 iS k':Nat) (pt:ByteArray) (n:Nat) (L:List Kd) (fx:List Nat) (tab:Nat->Value) (cz:Array Value) (D:Nat->Bool) (xs:Nat->Value) (w:World):Prop where
 m:Mod (·=c4) W0 w
 v:∀ j,D j=true->j∈fx->xs j=tab j
 l:D i9=true->∃ cs,xs i9=.agg cs/\OfG k' pt n L w cs
 c0:D iS=false->w.heap[c4]?=some (.cells cz 102 (0,0))
 o:D iS=true->D i9=true
 c1:D iS=true->∃ cs,w.heap[c4]?=some (.cells cs 102 (0,0))/\OfG k' pt n L w cs
variable {W0:World} {c4 i9 iS n:Nat} {fx:List Nat} {tab:Nat->Value} {cz:Array Value} {D:Nat->Bool} {xs:Nat->Value}
theorem CJ.blk (h:CJ W0 c4 i9 iS k' pt n L fx tab cz D xs w):∃ cc,w.heap[c4]?=some (.cells cc 102 (0,0)):=by
 cases e:D iS
 ·exact⟨_,h.c0 e⟩
 ·obtain⟨cs,h1,_⟩:=h.c1 e;exact⟨_,h1⟩
theorem CJ.start (hc:W0.heap[c4]?=some (.cells cz 102 (0,0))):CJ W0 c4 i9 iS k' pt n L fx tab cz (fun _=>false) (fun _=>undef) W0.drew :=
 ⟨(Mod.refl _ _).drew,fun j h=>(by cases h),fun h=>(by cases h),fun _=>hc,fun h=>(by cases h),fun h=>(by cases h)⟩
theorem CJ.calm (h:CJ W0 c4 i9 iS k' pt n L fx tab cz D xs w) {i:Nat} {u:Value} (hb:Below w.heap.size w w') (h1:i≠i9:=by decide) (h2:i≠iS:=by decide) (hu:i∈fx->u=tab i:=by intro h;cases h):CJ W0 c4 i9 iS k' pt n L fx tab cz (fun j=>D j || j == i) (fun j=>if j=i then u else xs j) w':=by
 obtain⟨cc,hc⟩:=h.blk
 have hn:¬ iS=i:=fun e=>h2 e.symm
 have hn9:¬ i9=i:=fun e=>h1 e.symm
 have e:(D iS || iS == i)=D iS:=by simp[hn]
 refine⟨h.m.trans (z0n hb) (fun _ _ e=>e),fun j hj hr=>?_,fun e=>?_,fun e1=>?_,fun e1=>(by rw[h.o (e.symm.trans e1)];rfl),fun e1=>?_⟩
 ·by_cases e:j=i
  ·subst e;simp only[if_pos];exact hu hr
  ·simp only[if_neg e];exact h.v j (by simpa[e] using hj) hr
 ·simp only[if_neg hn9]
  obtain⟨cs,e1,e2⟩:=h.l (by simpa[hn9] using e)
  exact⟨cs,e1,e2.mod hc (z0n hb)⟩
 ·exact (hb.block c4 (lt_of_block hc)).trans (h.c0 (e.symm.trans e1))
 ·obtain⟨cs,e2,e3⟩:=h.c1 (e.symm.trans e1)
  exact⟨cs,(hb.block c4 (lt_of_block hc)).trans e2,e3.mod hc (z0n hb)⟩
theorem CJ.store (h:CJ W0 c4 i9 iS k' pt n L fx tab cz D xs w) {u:Value} (hD:D iS=false) (hw:D i9=true) (hm:Mod (·=c4) w w') {cs:Array Value} (hg:OfG k' pt n L w cs) (hc:w'.heap[c4]?=some (.cells cs 102 (0,0))) (hne:i9≠iS:=by decide) (hf:iS ∉ fx:=by decide):CJ W0 c4 i9 iS k' pt n L fx tab cz (fun j=>D j || j == iS) (fun j=>if j=iS then u else xs j) w':=by
 refine⟨h.m.trans hm (fun _ _ e=>e),fun j hj hr=>?_,fun e=>?_,fun e1=>?_,fun _=>(by rw[hw];rfl),fun _=>⟨cs,hc,hg.mod (h.c0 hD) hm⟩⟩
 ·have e:¬ j=iS:=fun e=>hf (e ▸ hr)
  simp only[if_neg e];exact h.v j (by simpa[e] using hj) hr
 ·simp only[if_neg hne]
  obtain⟨cs,e1,e2⟩:=h.l (by simpa[hne] using e)
  exact⟨cs,e1,e2.mod (h.c0 hD) hm⟩
 ·simp at e1
end
section
variable {w w':World} {k:Nat} {pt:ByteArray} {ya za:Option Addr} {yn yc zn zc:Nat} {L:List Kd}
set_option maxRecDepth 20000 in
set_option maxHeartbeats 4000000 in
theorem Add_at (y s g:Int) (a:Bool) (hkd:(⟨y,s,g⟩:Kd).ok) (hf:z0p L y=none) (hl:zn+1<=z0v (max (kOf a k (zn+1)) k)) (h5:max (kOf a k (zn+1)) k<=5) (h:NodeIn w k pt ya yn yc za zn zc L) (hr:RoomsAt w) (hm:MayB k zn pt) :
 Calls Tryz.prog 36 #[(.agg #[.int .i64 k,.string ⟨#[]⟩,.string ⟨#[]⟩,.string pt,.slice ya yn yc,.slice za zn zc]),.int .u8 y,.agg #[.int .i64 s,.int .u32 g],.bool a] w fun e w'=>∃ cs,e=.returned (.tuple #[.agg cs,.int .i64 0])/\OfG (kOf a k (zn+1)) pt (insK L ⟨y,s,g⟩).length (insK L ⟨y,s,g⟩) w' cs/\Below w.heap.size w w':=by
 have hnf:∀ (w:World) (b:Nat),(nilAhead 410 229 (.pointer (some ⟨b,0,none⟩)) "Put").run Tryz.prog w=.ok (some false) w:=fun w b=>by kernel_rfl
 have hnm:∀ (w:World) (b:Nat),(nilAhead 410 232 (.pointer (some ⟨b,0,none⟩)) "Put").run Tryz.prog w=.ok (some false) w:=fun w b=>by kernel_rfl
 have hmt:∀ (w:World) (b:Nat),(method 410 229 (.pointer (some ⟨b,0,none⟩)) "Put").run Tryz.prog w=.ok (186,.pointer (some ⟨b,0,none⟩)) w:=fun w b=>by kernel_rfl
 have hmu:∀ (w:World) (b:Nat),(method 410 232 (.pointer (some ⟨b,0,none⟩)) "Put").run Tryz.prog w=.ok (200,.pointer (some ⟨b,0,none⟩)) w:=fun w b=>by kernel_rfl
 have hs1:(w.alloc (.cells #[.int .i64 k,.string ⟨#[]⟩,.string ⟨#[]⟩,.string pt,.slice ya yn yc,.slice za zn zc] 102 (0,0))).heap.size=w.heap.size+1:=by simp
 have hs2:((w.alloc (.cells #[.int .i64 k,.string ⟨#[]⟩,.string ⟨#[]⟩,.string pt,.slice ya yn yc,.slice za zn zc] 102 (0,0))).alloc (.cells #[.int .i64 s,.int .u32 g] 36 (0,0))).heap.size=w.heap.size+1+1:=by simp
 have hs3:(((w.alloc (.cells #[.int .i64 k,.string ⟨#[]⟩,.string ⟨#[]⟩,.string pt,.slice ya yn yc,.slice za zn zc] 102 (0,0))).alloc (.cells #[.int .i64 s,.int .u32 g] 36 (0,0))).alloc (.cells #[.int .i64 0,.string ⟨#[]⟩,.string ⟨#[]⟩,.string ⟨#[]⟩,.slice none 0 0,.slice none 0 0] 102 (0,0))).heap.size=w.heap.size+1+1+1:=by simp
 have b0:=z0m (o':=(.cells #[.int .i64 k,.string ⟨#[]⟩,.string ⟨#[]⟩,.string pt,.slice ya yn yc,.slice za zn zc] 165 (0,0))) (z0m (o':=(.cells #[.int .i64 0,.string ⟨#[]⟩,.string ⟨#[]⟩,.string ⟨#[]⟩,.slice none 0 0,.slice none 0 0] 102 (0,0))) (z0m (o':=(.cells #[.int .i64 s,.int .u32 g] 36 (0,0))) (z0a w (.cells #[.int .i64 k,.string ⟨#[]⟩,.string ⟨#[]⟩,.string pt,.slice ya yn yc,.slice za zn zc] 102 (0,0)))))
 have b1:=z0m (o':=(.cells #[.int .i64 k,.string ⟨#[]⟩,.string ⟨#[]⟩,.string pt,.slice ya yn yc,.slice za zn zc] 165 (0,0))) (z0m (o':=(.cells #[.int .i64 0,.string ⟨#[]⟩,.string ⟨#[]⟩,.string ⟨#[]⟩,.slice none 0 0,.slice none 0 0] 102 (0,0))) (z0a (w.alloc (.cells #[.int .i64 k,.string ⟨#[]⟩,.string ⟨#[]⟩,.string pt,.slice ya yn yc,.slice za zn zc] 102 (0,0))) (.cells #[.int .i64 s,.int .u32 g] 36 (0,0))))
 have b2:=z0m (o':=(.cells #[.int .i64 k,.string ⟨#[]⟩,.string ⟨#[]⟩,.string pt,.slice ya yn yc,.slice za zn zc] 165 (0,0))) (z0a ((w.alloc (.cells #[.int .i64 k,.string ⟨#[]⟩,.string ⟨#[]⟩,.string pt,.slice ya yn yc,.slice za zn zc] 102 (0,0))).alloc (.cells #[.int .i64 s,.int .u32 g] 36 (0,0))) (.cells #[.int .i64 0,.string ⟨#[]⟩,.string ⟨#[]⟩,.string ⟨#[]⟩,.slice none 0 0,.slice none 0 0] 102 (0,0)))
 have b3:=z0a (((w.alloc (.cells #[.int .i64 k,.string ⟨#[]⟩,.string ⟨#[]⟩,.string pt,.slice ya yn yc,.slice za zn zc] 102 (0,0))).alloc (.cells #[.int .i64 s,.int .u32 g] 36 (0,0))).alloc (.cells #[.int .i64 0,.string ⟨#[]⟩,.string ⟨#[]⟩,.string ⟨#[]⟩,.slice none 0 0,.slice none 0 0] 102 (0,0))) (.cells #[.int .i64 k,.string ⟨#[]⟩,.string ⟨#[]⟩,.string pt,.slice ya yn yc,.slice za zn zc] 165 (0,0))
 rw[hs1] at b1
 rw[hs2] at b2
 rw[hs3] at b3
 have hB:Below w.heap.size w ((((w.alloc (.cells #[.int .i64 k,.string ⟨#[]⟩,.string ⟨#[]⟩,.string pt,.slice ya yn yc,.slice za zn zc] 102 (0,0))).alloc (.cells #[.int .i64 s,.int .u32 g] 36 (0,0))).alloc (.cells #[.int .i64 0,.string ⟨#[]⟩,.string ⟨#[]⟩,.string ⟨#[]⟩,.slice none 0 0,.slice none 0 0] 102 (0,0))).alloc (.cells #[.int .i64 k,.string ⟨#[]⟩,.string ⟨#[]⟩,.string pt,.slice ya yn yc,.slice za zn zc] 165 (0,0))):=((((Below.refl _ _).alloc (Nat.le_refl _) _).alloc (by simp) _).alloc (by simp;omega) _).alloc (by simp;omega) _
 have HM:=hid (may_at (h.keep hB) (hr.keep hB) hm)
 have HR0:=hid hr
 have HI0:=hid h
 have HF:=hid hf
 have HKD:=hid hkd
 clear h hr hm hf hkd
 go_enter Tryz.func36,Tryz.ntmps36
 go_wp2_with fail
 have hK2:=HI0.out.k2
 generalize hWl:((((w.alloc (.cells #[.int .i64 k,.string ⟨#[]⟩,.string ⟨#[]⟩,.string pt,.slice ya yn yc,.slice za zn zc] 102 (0,0))).alloc (.cells #[.int .i64 s,.int .u32 g] 36 (0,0))).alloc (.cells #[.int .i64 0,.string ⟨#[]⟩,.string ⟨#[]⟩,.string ⟨#[]⟩,.slice none 0 0,.slice none 0 0] 102 (0,0))).alloc (.cells #[.int .i64 k,.string ⟨#[]⟩,.string ⟨#[]⟩,.string pt,.slice ya yn yc,.slice za zn zc] 165 (0,0)))=Wl at *
 generalize hu:w.heap.size=u at *
 refine HM.out.mono ?_
 rintro e w2 ⟨rfl,hB2⟩
 have H0:=hid ((hB2.block _ (lt_of_block b0)).trans b0)
 have H1:=hid ((hB2.block _ (lt_of_block b1)).trans b1)
 have H2:=hid ((hB2.block _ (lt_of_block b2)).trans b2)
 have H3:=hid ((hB2.block _ (lt_of_block b3)).trans b3)
 have hbb:=hB.trans (hB2.mono (by have:=hB.size;omega))
 have HU:=hid hu
 have HKA:=hid (kid_at s g w2 HKD.out.2.1 HKD.out.2.2.1)
 have r0:=cell_of H1.out 0
 have r1:=cell_of H1.out 1
 have HBB:=hid hbb
 clear hB2 hB b0 b1 b2 b3 HM hWl hs1 hs2 hs3 hu hbb
 go_wp2_with (first|(go_at_call 74;refine HKA.out.mono ?_;rintro e w3 ⟨rfl,hB3⟩;go_loud (have hB3':=HBB.out.trans (hB3.mono (by have:=HBB.out.size;have:=HU.out;omega));have H0:=hid ((hB3.block _ (lt_of_block H0.out)).trans H0.out);have H1:=hid ((hB3.block _ (lt_of_block H1.out)).trans H1.out);have H2:=hid ((hB3.block _ (lt_of_block H2.out)).trans H2.out);have H3:=hid ((hB3.block _ (lt_of_block H3.out)).trans H3.out);have HBB:=hid hB3';have HLT:=hid (lt_of_block H2.out);have HLT3:=hid (lt_of_block H3.out);have HR2:=hid (HR0.out.keep (by rw[HU.out];exact HBB.out));clear hB3 hB3' r0 r1 HKA;have z2:zn<=256:=(by have:=z1u HI0.out.z;have:=HI0.out.room;omega);have q5:=cell_of H0.out 5;have p0:=cell_of H3.out 0;have p1:=cell_of H3.out 1;have p2:=cell_of H3.out 2;have p3:=cell_of H3.out 3;have p4:=cell_of H3.out 4;have p5:=cell_of H3.out 5;have HKI:=hid (kind_at (k:=k) (pt:=pt) (ya:=ya) (yn:=yn) (yc:=yc) (za:=za) (zn:=zn) (zc:=zc) (zn+1) a w3 HR2.out (by omega));have ez:((zn+1:Nat):Int)=(zn:Int)+1:=(by omega);rw[ez] at HKI;clear ez))|(go_at_call 75;refine HKI.out.mono ?_;rintro e w4 ⟨rfl,hB4⟩))
 generalize hk1:kOf a k (zn+1)=k1 at *
 have HK1:=hid hk1
 clear hk1
 have hB4':=HBB.out.trans (hB4.mono (by have:=HBB.out.size;have:=HU.out;omega))
 have H0:=hid ((hB4.block _ (lt_of_block H0.out)).trans H0.out)
 have H1:=hid ((hB4.block _ (lt_of_block H1.out)).trans H1.out)
 have H2:=hid ((hB4.block _ (lt_of_block H2.out)).trans H2.out)
 have H3:=hid ((hB4.block _ (lt_of_block H3.out)).trans H3.out)
 have HBB:=hid hB4'
 have HLT:=hid (lt_of_block H2.out)
 have HLT3:=hid (lt_of_block H3.out)
 have HR2:=hid (HR0.out.keep (by rw[HU.out];exact HBB.out))
 have HL:=hid hl
 have H5:=hid h5
 clear hB4 hB4' HKI p0 p1 p2 p3 p4 p5 q5 hl h5
 refine z0r 7 [6] (fun xs=>[(.agg #[.int .i64 k,.string ⟨#[]⟩,.string ⟨#[]⟩,.string pt,.slice ya yn yc,.slice za zn zc]),.int .i64 k1,.pointer (some ⟨u,0,none⟩),.int .i64 k,.int .i64 (max k1 k:Nat),.int .i64 (z0v (max k1 k)),xs 6]) (LJ w4 (u+1+1) 6 99 L (z0v (max k1 k)) [] (fun _=>undef) (.cells #[.int .i64 0,.string ⟨#[]⟩,.string ⟨#[]⟩,.string ⟨#[]⟩,.slice none 0 0,.slice none 0 0] 102 (0,0)) (.cells #[.int .i64 0,.string ⟨#[]⟩,.string ⟨#[]⟩,.string ⟨#[]⟩,.slice none 0 0,.slice none 0 0] 102 (0,0))) ?h0 (fun xs ys h=>by simp[h]) ?hs ?hend
 case h0=>exact LJ.start H2.out
 case hs =>
  dsimp only[List.take,z1c,OpT,z1s]
  (repeat' refine And.intro ?_ ?_)<;>first|refine .inl ⟨rfl,?_⟩|refine .inr ⟨rfl,?_⟩
  iterate 4
   ·intro D xs w1 hDk hwt hJ
    have hk0:=(hJ.m.block u (lt_of_block H0.out) (by show ¬ u=u+1+1;omega)).trans H0.out
    have hk2:=(hJ.m.block (u+1+1+1) (lt_of_block H3.out) (by show ¬ u+1+1+1=u+1+1;omega)).trans H3.out
    have q0:=cell_of hk0 0
    have p0:=cell_of hk2 0
    have p1:=cell_of hk2 1
    have p2:=cell_of hk2 2
    have p3:=cell_of hk2 3
    have p4:=cell_of hk2 4
    have p5:=cell_of hk2 5
    have HJ:=hid hJ
    clear hDk hwt hJ hk0 hk2
    go_wp2_with fail
    exact⟨by kernel_rfl,fun _ _=>HJ.out.calm HLT.out (Below.refl _ _)⟩
  ·intro D xs w1 hDk hwt hJ
   have HJ:=hid hJ
   clear hDk hwt hJ
   go_wp2_with fail
   all_goals
    refine⟨?_,HJ.out.calm HLT.out (Below.refl _ _)⟩
    first
     | (rw[show max k1 k=k by omega];kernel_rfl)
     | (rw[show max k1 k=k1 by omega];kernel_rfl)
  ·intro D xs w1 hDk hwt hJ
   have HRM:=hid (room_at (max k1 k) H5.out w1 (HR2.out.same (hJ.m.block 0 HR2.out.lt (by show ¬ 0=u+1+1;omega))))
   have HJ:=hid hJ
   clear hDk hwt hJ
   go_wp2_with (go_at_call 77;refine HRM.out.mono ?_;rintro e w3 ⟨rfl,rfl⟩)
   exact⟨by kernel_rfl,fun _ _=>HJ.out.calm HLT.out (Below.refl _ _)⟩
  ·intro D xs w1 hDk hwt hJ
   have hb1:Below w.heap.size w w1:=by
    rw[HU.out]
    exact HBB.out.trans ⟨hJ.m.os,hJ.m.tape,hJ.m.output,hJ.m.size,fun i hi=>hJ.m.block i (by have:=HLT.out;omega) (by show ¬ i=u+1+1;omega)⟩
   have HLD:=hid (laid_at (z0v (max k1 k)) (HI0.out.keep hb1) (roomOf_four (k:=max k1 k) (by have:=HI0.out.k1;omega) H5.out) (by have:=HL.out;have:=z1u HI0.out.z;omega))
   have HJ:=hid hJ
   clear hDk hwt hJ hb1
   go_wp2_with (go_at_call 76;refine HLD.out.mono ?_;rintro e w3 ⟨v,rfl,hK,hb⟩)
   exact⟨v,by kernel_rfl,fun q hq=>by obtain rfl:=hq rfl;exact HJ.out.laid hK hb⟩
 case hend =>
  intro D xs w7 hD hJ
  dsimp only[List.take,z1s,List.drop]
  have hK:=hJ.l (hD 6 (by omega))
  have hM:=hJ.m
  have hbl:True\/True:=.inr trivial
  generalize xs 6=v4 at *
  clear hbl
  have hb4:Below u w w7:=HBB.out.trans ⟨hM.os,hM.tape,hM.output,hM.size,fun i hi=>hM.block i (by have:=HLT.out;omega) (by show ¬ i=u+1+1;omega)⟩
  have h0:=(hM.block u (lt_of_block H0.out) (by show ¬ u=u+1+1;omega)).trans H0.out
  have h1:=(hM.block (u+1) (lt_of_block H1.out) (by show ¬ u+1=u+1+1;omega)).trans H1.out
  have h3:=(hM.block (u+1+1+1) (lt_of_block H3.out) (by show ¬ u+1+1+1=u+1+1;omega)).trans H3.out
  have h2:=hJ.c
  simp only[Bool.cond_self] at h2
  have r0:=cell_of h1 0
  have r1:=cell_of h1 1
  have G0:=hid h0
  have G2:=hid h2
  have G3:=hid h3
  have HB7:=hid hb4
  clear hD hJ hM h0 h1 h2 h3 hb4 H0 H1 H2 H3 HBB
  have HLR:Hid (L.length<z0v (max k1 k)):=hid (by have:=HL.out;have:=z1u HI0.out.z;omega)
  rcases hK with ⟨x,hx,rfl,hF⟩|⟨x,gr,gu,hx,rfl,hF⟩
  ·have HT:=hid (F.fPut_L ⟨y,s,g⟩ w7 hF HF.out HLR.out)
   clear hF
   have hS:∀ i,i<u+1+1+1+1->¬ i=x:=fun i hi=>by have:=HLT3.out;omega
   go_wp2_with (first|(go_at_call 186;refine HT.out.mono ?_;rintro e w5 ⟨rfl,hF5,hM5⟩;go_loud (have hb5:Below u w w5:=HB7.out.trans ⟨hM5.os,hM5.tape,hM5.output,hM5.size,fun i hi=>hM5.block i (by have:=lt_of_block G0.out;omega) (hS i (by omega))⟩;have h0:=(hM5.block u (lt_of_block G0.out) (hS u (by omega))).trans G0.out;have h2:=(hM5.block (u+1+1) (lt_of_block G2.out) (hS _ (by omega))).trans G2.out;have h3:=(hM5.block (u+1+1+1) (lt_of_block G3.out) (hS _ (by omega))).trans G3.out;have q0:=cell_of h0 0;have p0:=cell_of h3 0;have p1:=cell_of h3 1;have p2:=cell_of h3 2;have p3:=cell_of h3 3;have p4:=cell_of h3 4;have p5:=cell_of h3 5;have HOF:=hid (of_any (w:=w5) (k:=k) (k':=k1) (pt:=pt) (ya:=ya) (yn:=yn) (yc:=yc) (za:=za) (zn:=zn) (zc:=zc) (L:=insK L ⟨y,s,g⟩) (by rw[z2y];have:=HL.out;have:=z1u HI0.out.z;have:=roomOf_four (k:=max k1 k) (by have:=HI0.out.k1;omega) H5.out;omega) (.inl ⟨x,z0v (max k1 k),rfl,hF5⟩));have G2b:=hid h2;have HB5:=hid hb5;clear hF5 hM5 hb5 h0 h2 h3 HT))|(go_at_call 78;refine HOF.out.mono ?_;rintro e w6 ⟨ya',yc',za',zc',rfl,oy,oz,hB6⟩;go_loud (have h2:=(hB6.block _ (lt_of_block G2b.out)).trans G2b.out;have t0:=cell_of h2 0;have t1:=cell_of h2 1;have t2:=cell_of h2 2;have t3:=cell_of h2 3;have t4:=cell_of h2 4;have t5:=cell_of h2 5;have tf:=z0e h2;have G2c:=hid h2;have OY:=hid oy;have OZ:=hid oz;have HB6:=hid (HB5.out.trans (hB6.mono (by have:=HB5.out.size;have:=HU.out;omega)));clear h2 oy oz hB6 HOF)))
   obtain⟨l1,l2⟩:=set6_at (.int .i64 k1) (.string ⟨#[]⟩) (.string ⟨#[]⟩) (.string pt) (.slice ya' (insK L ⟨y,s,g⟩).length yc') (.slice za' (insK L ⟨y,s,g⟩).length zc') G2c.out
   obtain⟨fs,hus⟩:∃ fs,Tryz.prog.underlying 102=some (.struct fs):=⟨_,rfl⟩
   refine bodyPost_ret (z1v (p:=8) (u:=9) (ty:=102) rfl _ _ (u+1+1) _ _ _ _ (by kernel_rfl) l1 hus rfl (by kernel_rfl)) (by kernel_rfl) ⟨#[.int .i64 k1,.string ⟨#[]⟩,.string ⟨#[]⟩,.string pt,.slice ya' (insK L ⟨y,s,g⟩).length yc',.slice za' (insK L ⟨y,s,g⟩).length zc'],by kernel_rfl,⟨ya',yc',za',zc',by rw[HK1.out],z0h OY.out l2 (z1m OY.out G2c.out (by decide)),z0h OZ.out l2 (z1m OZ.out G2c.out (by decide))⟩,?_⟩
   rw[HU.out]
   exact HB6.out.trans ⟨l2.os,l2.tape,l2.output,l2.size,fun i hi=>l2.block i (by have:=lt_of_block G2c.out;omega) (by show ¬ i=u+1+1;omega)⟩
  ·have HT:=hid (M.put_L ⟨y,s,g⟩ HLR.out hF HKD.out.1 HF.out)
   clear hF
   have hS:∀ i,i<u+1+1+1+1->¬ MOwn x gr gu i:=fun i hi=>by have:=HLT3.out;rintro (e|e|e)<;>omega
   go_wp2_with (first|(go_at_call 200;refine HT.out.mono ?_;rintro e w5 ⟨rfl,hF5,hM5⟩;go_loud (have hb5:Below u w w5:=HB7.out.trans ⟨hM5.os,hM5.tape,hM5.output,hM5.size,fun i hi=>hM5.block i (by have:=lt_of_block G0.out;omega) (hS i (by omega))⟩;have h0:=(hM5.block u (lt_of_block G0.out) (hS u (by omega))).trans G0.out;have h2:=(hM5.block (u+1+1) (lt_of_block G2.out) (hS _ (by omega))).trans G2.out;have h3:=(hM5.block (u+1+1+1) (lt_of_block G3.out) (hS _ (by omega))).trans G3.out;have q0:=cell_of h0 0;have p0:=cell_of h3 0;have p1:=cell_of h3 1;have p2:=cell_of h3 2;have p3:=cell_of h3 3;have p4:=cell_of h3 4;have p5:=cell_of h3 5;have HOF:=hid (of_any (w:=w5) (k:=k) (k':=k1) (pt:=pt) (ya:=ya) (yn:=yn) (yc:=yc) (za:=za) (zn:=zn) (zc:=zc) (L:=insK L ⟨y,s,g⟩) (by rw[z2y];have:=HL.out;have:=z1u HI0.out.z;have:=roomOf_four (k:=max k1 k) (by have:=HI0.out.k1;omega) H5.out;omega) (.inr ⟨x,gr,gu,z0v (max k1 k),rfl,⟨by obtain⟨M,h1,h2⟩:=hF5.m;exact⟨M,h1,h2.l⟩⟩⟩));have G2b:=hid h2;have HB5:=hid hb5;clear hF5 hM5 hb5 h0 h2 h3 HT))|(go_at_call 78;refine HOF.out.mono ?_;rintro e w6 ⟨ya',yc',za',zc',rfl,oy,oz,hB6⟩;go_loud (have h2:=(hB6.block _ (lt_of_block G2b.out)).trans G2b.out;have t0:=cell_of h2 0;have t1:=cell_of h2 1;have t2:=cell_of h2 2;have t3:=cell_of h2 3;have t4:=cell_of h2 4;have t5:=cell_of h2 5;have tf:=z0e h2;have G2c:=hid h2;have OY:=hid oy;have OZ:=hid oz;have HB6:=hid (HB5.out.trans (hB6.mono (by have:=HB5.out.size;have:=HU.out;omega)));clear h2 oy oz hB6 HOF)))
   obtain⟨l1,l2⟩:=set6_at (.int .i64 k1) (.string ⟨#[]⟩) (.string ⟨#[]⟩) (.string pt) (.slice ya' (insK L ⟨y,s,g⟩).length yc') (.slice za' (insK L ⟨y,s,g⟩).length zc') G2c.out
   obtain⟨fs,hus⟩:∃ fs,Tryz.prog.underlying 102=some (.struct fs):=⟨_,rfl⟩
   refine bodyPost_ret (z1v (p:=8) (u:=9) (ty:=102) rfl _ _ (u+1+1) _ _ _ _ (by kernel_rfl) l1 hus rfl (by kernel_rfl)) (by kernel_rfl) ⟨#[.int .i64 k1,.string ⟨#[]⟩,.string ⟨#[]⟩,.string pt,.slice ya' (insK L ⟨y,s,g⟩).length yc',.slice za' (insK L ⟨y,s,g⟩).length zc'],by kernel_rfl,⟨ya',yc',za',zc',by rw[HK1.out],z0h OY.out l2 (z1m OY.out G2c.out (by decide)),z0h OZ.out l2 (z1m OZ.out G2c.out (by decide))⟩,?_⟩
   rw[HU.out]
   exact HB6.out.trans ⟨l2.os,l2.tape,l2.output,l2.size,fun i hi=>l2.block i (by have:=lt_of_block G2c.out;omega) (by show ¬ i=u+1+1;omega)⟩
end
theorem kindOf_ok (h:n<=256):2<=kindOf n/\kindOf n<=5/\n<=z0v (kindOf n):=by
 unfold kindOf
 split
 ·exact⟨by omega,by omega,by simp[z0v];omega⟩
 ·split
  ·exact⟨by omega,by omega,by simp[z0v];omega⟩
  ·split
   ·exact⟨by omega,by omega,by simp[z0v];omega⟩
   ·exact⟨by omega,by omega,by simp[z0v];omega⟩
theorem kOf_ok {a:Bool} (h:n<=256) (h1:2<=k) (h2:k<=5) (h3:a=true->n<=z0v k):2<=kOf a k n/\kOf a k n<=5/\n<=z0v (kOf a k n):=by
 cases a
 ·exact kindOf_ok h
 ·exact⟨h1,h2,h3 rfl⟩
variable {L:List Kd}
theorem insK_ok {z:Kd} (h:∀ x∈L,x.ok) (hz:z.ok):∀ x∈insK L z,x.ok:=by
 intro x hx
 rw[insK_eq] at hx
 rcases List.mem_append.1 hx with hx|hx
 ·exact h x (List.mem_of_mem_take hx)
 ·rcases List.mem_cons.1 hx with rfl|hx
  ·exact hz
  ·exact h x (List.mem_of_mem_drop hx)
theorem OfG.node {pt:ByteArray} {w:World} (h:OfG k pt L.length L w cs) (h1:2<=k) (h2:k<=5) (hp:pt.size<=34) (hl:L.length<=z0v k) (hr:Rise L) (ho:∀ x∈L,x.ok) :
 ∃ ya yc za zc,cs=#[.int .i64 k,.string ⟨#[]⟩,.string ⟨#[]⟩,.string pt,.slice ya L.length yc,.slice za L.length zc]/\NodeIn w k pt ya L.length yc za L.length zc L:=by
 obtain⟨ya,yc,za,zc,e,a,b⟩:=h
 exact⟨ya,yc,za,zc,e,⟨a,b,h1,h2,hp,hl,hr,ho⟩⟩
end Go.Proofs.YtgdmfledhhoedaaGreatDoor.O
namespace Go.Burg
open Go Go.RowKit
variable {B b:Nat} {w:World}
theorem z0b {w1:World} {o:Obj} (h:w.heap[b]?=some o) (hb:Below B w w1) (hB:b<B):w1.heap[b]?=some o:=(hb.block b hB).trans h
theorem z0c {o o':Obj} (h:w.heap[b]?=some o):(w.alloc o').heap[b]?=some o:=(Below.heap_alloc _ _ _ (lt_of_block h)).trans h
theorem below_drewN {n:Nat} {a b:World} (h:Below B a b):Below B a (b.drewN n):=⟨h.os,h.tape,h.output,h.size,h.block⟩
structure Cel (α:Type) where
 is:Bool
 x:α
 gen:Int
structure Sl where
 a:Option Addr
 n:Nat
 c:Nat
structure Nd where
 kind:Int
 code:ByteArray
 value:ByteArray
 path:ByteArray
 bytes:Sl
 kids:Sl
 planted:Bool
 died:Bool
def Nd.V (x:Nd):Value:=(.agg #[.int .i64 x.kind,.string x.code,.string x.value,.string x.path,.slice x.bytes.a x.bytes.n x.bytes.c,.slice x.kids.a x.kids.n x.kids.c,.bool x.planted,.bool x.died])
def Nd.zero:Nd:=⟨0,⟨#[]⟩,⟨#[]⟩,⟨#[]⟩,⟨none,0,0⟩,⟨none,0,0⟩,false,false⟩
def Cel.room {α:Type} (c:Cel α):Bool:=!c.is && decide (c.gen<4294967295)
def z2s {α:Type} (l:List (Cel α)) (r:Int):Prop :=
 (∃ (k:Nat) (c:Cel α),r=k/\l[k]?=some c/\c.room=true/\∀ j,j<k->∀ d:Cel α,l[j]?=some d->d.room=false)\/(r=-1/\∀ (j:Nat) (d:Cel α),l[j]?=some d->d.room=false)
theorem z2s.at {α:Type} {l:List (Cel α)} {r:Int} (h:z2s l r) {k:Nat} {c:Cel α} (hk:l[k]?=some c) (hc:c.room=true) (hb:∀ j,j<k->∀ d:Cel α,l[j]?=some d->d.room=false):r=k:=by
 rcases h with ⟨k',c',rfl,h1,h2,h3⟩|⟨_,h⟩
 ·rcases Nat.lt_trichotomy k k' with h|rfl|h
  ·rw[h3 k h c hk] at hc;cases hc
  ·rfl
  ·rw[hb k' h c' h1] at h2;cases h2
 ·rw[h k c hk] at hc;cases hc
theorem z2s.none {α:Type} {l:List (Cel α)} {r:Int} (h:z2s l r) (hb:∀ j,j<l.length->∀ d:Cel α,l[j]?=some d->d.room=false):r=-1:=by
 rcases h with ⟨k,c,rfl,h1,h2,_⟩|⟨h,_⟩
 ·rw[hb k (List.getElem?_eq_some_iff.1 h1).1 c h1] at h2;cases h2
 ·exact h
def NRow (c:Cel Nd):List Value:=[.bool c.is,.int .i64 c.x.kind,.string c.x.code,.string c.x.value,.string c.x.path,(.slice c.x.bytes.a c.x.bytes.n c.x.bytes.c),(.slice c.x.kids.a c.x.kids.n c.x.kids.c),.bool c.x.planted,.bool c.x.died,.int .u32 c.gen]
structure CellsN (tc:TypeId) (w:World) (g:Nat) (l:List (Cel Nd)):Prop where
 hg:∃ cs,w.heap[g]?=some (.cells cs tc (0,0))/\∀ i c,l[i]?=some c->∀ j,j<10->cs[i * 10+j]?=(NRow c)[j]?
 gen:∀ c∈l,0<=c.gen/\c.gen<=4294967295
structure SlabN (tc ts:TypeId) (w:World) (b g:Nat) (l:List (Cel Nd)):Prop where
 hb:w.heap[b]?=some (.cells #[.slice (some ⟨g,0,none⟩) l.length l.length] ts (0,0))
 hc:CellsN tc w g l
 ne:g≠b
 pos:1<=l.length
 top:l.length<=4096
section
variable {tc ts:TypeId} {w w':World} {b g:Nat} {l:List (Cel Nd)}
theorem CellsN.lt (h:CellsN tc w g l):g<w.heap.size:=by
 obtain⟨cs,h1,_⟩:=h.hg
 exact lt_of_block h1
theorem SlabN.blt (h:SlabN tc ts w b g l):b<w.heap.size:=lt_of_block h.hb
theorem SlabN.glt (h:SlabN tc ts w b g l):g<w.heap.size:=h.hc.lt
theorem CellsN.same (h:CellsN tc w g l) (e:w'.heap[g]?=w.heap[g]?):CellsN tc w' g l :=
 ⟨by obtain⟨cs,h1,h2⟩:=h.hg;exact⟨cs,e.trans h1,h2⟩,h.gen⟩
theorem SlabN.same (h:SlabN tc ts w b g l) (e1:w'.heap[b]?=w.heap[b]?) (e2:w'.heap[g]?=w.heap[g]?):SlabN tc ts w' b g l :=
 ⟨e1.trans h.hb,h.hc.same e2,h.ne,h.pos,h.top⟩
theorem SlabN.keep (h:SlabN tc ts w b g l) (k:Below w.heap.size w w'):SlabN tc ts w' b g l :=
 h.same (k.block b h.blt) (k.block g h.glt)
theorem SlabN.below (h:SlabN tc ts w b g l) (k:Below B w w') (h1:b<B) (h2:g<B):SlabN tc ts w' b g l :=
 h.same (k.block b h1) (k.block g h2)
theorem SlabN.alloc (h:SlabN tc ts w b g l) (o:Obj):SlabN tc ts (w.alloc o) b g l :=
 h.same (Below.heap_alloc _ _ _ h.blt) (Below.heap_alloc _ _ _ h.glt)
theorem SlabN.mod {S:Nat->Prop} (h:SlabN tc ts w b g l) (k:Mod S w w') (h1:¬ S b) (h2:¬ S g):SlabN tc ts w' b g l :=
 h.same (k.block b h.blt h1) (k.block g h.glt h2)
theorem CellsN.cell (h:CellsN tc w g l) {i:Nat} {c:Cel Nd} (hi:l[i]?=some c) :
 (w.cell? ⟨g,i * 10,none⟩=some (.bool c.is)/\w.cell? ⟨g,i * 10+1,none⟩=some (.int .i64 c.x.kind)/\w.cell? ⟨g,i * 10+2,none⟩=some (.string c.x.code)/\w.cell? ⟨g,i * 10+3,none⟩=some (.string c.x.value)/\w.cell? ⟨g,i * 10+4,none⟩=some (.string c.x.path)/\w.cell? ⟨g,i * 10+5,none⟩=some (.slice c.x.bytes.a c.x.bytes.n c.x.bytes.c)/\w.cell? ⟨g,i * 10+6,none⟩=some (.slice c.x.kids.a c.x.kids.n c.x.kids.c)/\w.cell? ⟨g,i * 10+7,none⟩=some (.bool c.x.planted)/\w.cell? ⟨g,i * 10+8,none⟩=some (.bool c.x.died)/\w.cell? ⟨g,i * 10+9,none⟩=some (.int .u32 c.gen))/\(∀ j,w.frozen? ⟨g,j,none⟩=false)/\0<=c.gen/\c.gen<=4294967295:=by
 obtain⟨cs,h1,h2⟩:=h.hg
 have hc:=cell_of h1
 have h3:=h2 i c hi
 have hgen:=h.gen c (List.mem_of_getElem? hi)
 exact⟨⟨(hc _).trans (h3 0 (by omega)),(hc _).trans (h3 1 (by omega)),(hc _).trans (h3 2 (by omega)),(hc _).trans (h3 3 (by omega)),(hc _).trans (h3 4 (by omega)),(hc _).trans (h3 5 (by omega)),(hc _).trans (h3 6 (by omega)),(hc _).trans (h3 7 (by omega)),(hc _).trans (h3 8 (by omega)),(hc _).trans (h3 9 (by omega))⟩,z0e h1,hgen⟩
theorem SlabN.head (h:SlabN tc ts w b g l):w.cell? ⟨b,0,none⟩=some (.slice (some ⟨g,0,none⟩) l.length l.length)/\w.frozen? ⟨b,0,none⟩=false:=⟨cell_of h.hb 0,z0e h.hb 0⟩
theorem z2q {cs:Array Value} {i j:Nat} {v:Value}:(cs.setIfInBounds i v)[j]?=if i=j then (if i<cs.size then some v else none) else cs[j]?:=by
 rw[Array.getElem?_setIfInBounds]
theorem CellsN.put (h:CellsN tc w g l) {i:Nat} {c:Cel Nd} (hi:l[i]?=some c) (d:Cel Nd) (h0:0<=d.gen/\d.gen<=4294967295) :
 CellsN tc ((((((((((w.setCell ⟨g,i * 10,none⟩ (.bool d.is)).setCell ⟨g,i * 10+1,none⟩ (.int .i64 d.x.kind)).setCell ⟨g,i * 10+2,none⟩ (.string d.x.code)).setCell ⟨g,i * 10+3,none⟩ (.string d.x.value)).setCell ⟨g,i * 10+4,none⟩ (.string d.x.path)).setCell ⟨g,i * 10+5,none⟩ (.slice d.x.bytes.a d.x.bytes.n d.x.bytes.c)).setCell ⟨g,i * 10+6,none⟩ (.slice d.x.kids.a d.x.kids.n d.x.kids.c)).setCell ⟨g,i * 10+7,none⟩ (.bool d.x.planted)).setCell ⟨g,i * 10+8,none⟩ (.bool d.x.died)).setCell ⟨g,i * 10+9,none⟩ (.int .u32 d.gen)) g (l.set i d):=by
 obtain⟨cs,h1,h2⟩:=h.hg
 refine⟨⟨_,heap_set (heap_set (heap_set (heap_set (heap_set (heap_set (heap_set (heap_set (heap_set (heap_set h1))))))))),fun j e hj k hk=>?_⟩,fun d hd=>?_⟩
 ·have hil:i<l.length:=(List.getElem?_eq_some_iff.1 hi).1
  have a9:cs[i * 10+9]?=some (.int .u32 c.gen):=h2 i c hi 9 (by omega)
  have s3:i * 10+9<cs.size:=(Array.getElem?_eq_some_iff.1 a9).1
  by_cases hij:i=j
  ·subst hij
   rw[List.getElem?_set_self hil] at hj
   cases hj
   rcases (by omega:k=0\/k=1\/k=2\/k=3\/k=4\/k=5\/k=6\/k=7\/k=8\/k=9) with rfl|rfl|rfl|rfl|rfl|rfl|rfl|rfl|rfl|rfl<;>simp[z2q,NRow]<;>omega
  ·rw[List.getElem?_set_ne hij] at hj
   have b1:=h2 j e hj k hk
   rw[<- b1]
   iterate 10 rw[z2q,if_neg (by omega)]
 ·rcases List.mem_or_eq_of_mem_set hd with hd|rfl
  ·exact h.gen d hd
  ·exact h0
theorem SlabN.turn (h:SlabN tc ts w b g l) {l':List (Cel Nd)} (hc:CellsN tc w' g l') (hl:l'.length=l.length) (k:Mod (·=g) w w'):SlabN tc ts w' b g l' :=
 ⟨by rw[hl];exact (k.block b h.blt (fun e=>h.ne e.symm)).trans h.hb,hc,h.ne,by rw[hl];exact h.pos,by rw[hl];exact h.top⟩
end
end Go.Burg
namespace Go.Proofs.YtgdmfledhhoedaaGreatDoor.S
set_option maxRecDepth 8000
open Go.ChangeShapes Go.WideShapes Go.ChangeAt Go.RowKit Go.Burg
variable {l:List (Cel Nd)} {b g:Nat}
theorem there_any (w:World) (h:SlabN 193 150 w b g l) :
 Calls Tryz.prog 61 #[.pointer (some ⟨b,0,none⟩)] w fun e w'=>e=.returned (.bool true)/\Below w.heap.size w w':=by
 obtain⟨c0,f0⟩:=h.head
 have hp:=h.pos
 have ht:=h.top
 go_enter Tryz.func61,Tryz.ntmps61
 go_wp2
 go_ret
 exact⟨by simp;exact hp,Below.refl _ _⟩
theorem room_any (is:Bool) (k:Int) (c v p:ByteArray) (y z:Sl) (pl di:Bool) (gen:Int) (w:World) :
 Calls Tryz.prog 63 #[.agg #[.bool is,.int .i64 k,.string c,.string v,.string p,.slice y.a y.n y.c,.slice z.a z.n z.c,.bool pl,.bool di,.int .u32 gen]] w fun e w'=>e=.returned (.bool (!is && decide (gen<4294967295)))/\Below w.heap.size w w':=by
 cases is<;>by_cases hg:gen<4294967295
 all_goals
  simp only[hg,decide_true,decide_false,Bool.not_true,Bool.not_false,Bool.and_true,Bool.and_false]
  go_enter Tryz.func63,Tryz.ntmps63
  go_wp2
  go_ret
  exact⟨rfl,by (repeat (first|exact Below.refl _ _|assumption|with_reducible refine Below.drew ?_|with_reducible refine below_drewN ?_|with_reducible refine Below.setCell ?_ (by first|(simp;done)|(simp;omega)) _|with_reducible refine Below.alloc ?_ (by first|exact Nat.le_refl _|(simp;done)|(simp;omega)) _))⟩
theorem index_any (r:Int) (w:World) (h:CellsN 193 w g l) (hn:l.length<=4096) (hF:z2s l r) :
 Calls Tryz.prog 98 #[.slice (some ⟨g,0,none⟩) l.length l.length,.func (.func 63) #[] #[]] w fun e w'=>e=.returned (.int .i64 r)/\Below w.heap.size w w':=by
 have HF:=hid hF
 clear hF
 have hgl:=h.lt
 go_enter Tryz.func98,Tryz.ntmps98
 go_wp2_with fail
 go_loopw [8] (fun iv wr=>∃ k:Nat,k<=l.length/\iv=.int .i64 k/\(∀ j,j<k->∀ d:Cel Nd,l[j]?=some d->d.room=false)/\Below w.heap.size w wr) (fun iv _=>l.length - (intOf iv).toNat)
 case atStart=>exact⟨0,Nat.zero_le _,rfl,fun _ h=>absurd h (Nat.not_lt_zero _),Below.refl _ _⟩
 case round =>
  obtain⟨k,hk,rfl,hp,hB⟩:=hrel
  have HP:=hid hp
  have HB:=hid hB
  clear hp
  by_cases hlt:k<l.length
  ·obtain⟨⟨c0,c1,c2,c3,c4,c5,c6,c7,c8,c9⟩,cf,g1,g2⟩:=(h.same (hB.block g hgl)).cell (List.getElem?_eq_getElem hlt)
   have hi:=hid (List.getElem?_eq_getElem hlt)
   generalize l[k]=c at c0 c1 c2 c3 c4 c5 c6 c7 c8 c9 g1 g2 hi
   obtain⟨is,⟨kn,cd,vl,pt,⟨ya,yn,yc⟩,⟨za,zn,zc⟩,pl,di⟩,gen⟩:=c
   simp only at c0 c1 c2 c3 c4 c5 c6 c7 c8 c9 g1 g2
   clear hB
   have HR:=hid (fun w=>room_any is kn cd vl pt ⟨ya,yn,yc⟩ ⟨za,zn,zc⟩ pl di gen w)
   by_cases hr:(!is && decide (gen<4294967295))=true
   ·have hrk:r=k:=HF.out.at hi.out hr HP.out
    rw[hr] at HR
    clear hr
    go_wp2_with (go_at_call 63;refine (HR.out _).mono ?_;rintro e w2 ⟨rfl,hB2⟩;have HB2:=hid hB2;clear hB2)
    go_ret
    exact⟨by simp[hrk],HB.out.trans (HB2.out.mono HB.out.size)⟩
   ·rw[Bool.eq_false_iff.2 hr] at HR
    have hr':=hid hr
    clear hr
    go_wp2_with (go_at_call 63;refine (HR.out _).mono ?_;rintro e w2 ⟨rfl,hB2⟩;have HB2:=hid hB2;clear hB2)
    go_roundw
    case rel=>exact⟨k+1,by omega,by go_num,fun j hj d hd=>by
     rcases Nat.lt_succ_iff_lt_or_eq.1 hj with h|rfl
     ·exact HP.out j h d hd
     ·have:=hi.out.symm.trans hd
      cases this
      exact Bool.eq_false_iff.2 hr'.out,HB.out.trans (HB2.out.mono HB.out.size)⟩
    case measure=>simp[intOf];omega
  ·obtain rfl:k=l.length:=by omega
   have hrk:r=-1:=HF.out.none HP.out
   go_wp2_with fail
   go_ret
   exact⟨by simp[hrk],HB.out⟩
theorem take_no (k0:Int) (cd vl pt:ByteArray) (ya za:Option Addr) (yn yc zn zc:Nat) (pl di:Bool) (w:World) (h:SlabN 193 150 w b g l) (hF:z2s l (-1)) :
 Calls Tryz.prog 69 #[.pointer (some ⟨b,0,none⟩),.agg #[.int .i64 k0,.string cd,.string vl,.string pt,.slice ya yn yc,.slice za zn zc,.bool pl,.bool di]] w fun e w'=>e=.returned (.tuple #[.agg #[.int .i64 0,.int .u32 0],.int .i64 14])/\Below w.heap.size w w':=by
 have hA:=(h.alloc (.cells #[.int .i64 k0,.string cd,.string vl,.string pt,.slice ya yn yc,.slice za zn zc,.bool pl,.bool di] 104)).alloc (.cells #[.int .i64 0,.int .u32 0] 36)
 have hN:=z0a (w.alloc (.cells #[.int .i64 k0,.string cd,.string vl,.string pt,.slice ya yn yc,.slice za zn zc,.bool pl,.bool di] 104)) (.cells #[.int .i64 0,.int .u32 0] 36)
 have hX:=z0c (o':=(.cells #[.int .i64 0,.int .u32 0] 36)) (z0a w (.cells #[.int .i64 k0,.string cd,.string vl,.string pt,.slice ya yn yc,.slice za zn zc,.bool pl,.bool di] 104))
 have hs1:(w.alloc (.cells #[.int .i64 k0,.string cd,.string vl,.string pt,.slice ya yn yc,.slice za zn zc,.bool pl,.bool di] 104)).heap.size=w.heap.size+1:=by simp
 rw[hs1] at hN
 clear hs1
 go_enter Tryz.func69,Tryz.ntmps69
 go_wp2_with fail
 refine (there_any _ hA).mono ?_
 rintro e w1 ⟨rfl,hw1⟩
 have h1:=hA.keep hw1
 have hN1:=z0b hN hw1 (by simp)
 have hX1:=z0b hX hw1 (by simp;omega)
 have HB1:Hid (Below w.heap.size w w1):=hid ((((Below.refl _ _).alloc (Nat.le_refl _) _).alloc (by simp) _).trans (hw1.mono (by simp;omega)))
 clear hw1 hA hN hX
 obtain⟨s0,sf⟩:=h1.head
 go_wp2_with fail
 refine (index_any _ _ h1.hc h1.top hF).mono ?_
 rintro e w2 ⟨rfl,hw2⟩
 have h2:=h1.keep hw2
 have hN2:=z0b hN1 hw2 (lt_of_block hN1)
 have hX2:=z0b hX1 hw2 (lt_of_block hX1)
 have hl2:=lt_of_block hN2
 have hl3:=lt_of_block hX2
 have HB2:Hid (Below w.heap.size w w2):=hid (HB1.out.trans (hw2.mono HB1.out.size))
 clear hw2 h1 hN1 hX1 s0 sf HB1
 have n0:=cell_of hN2 0
 have n1:=cell_of hN2 1
 have nf:=z0e hN2
 clear hX2
 go_wp2
 refine bodyPost_ret (v:=.tuple #[.agg #[_,_],_]) (by simp[results,Tryz.results69,go_sem,n0,n1]) rfl ⟨rfl,?_⟩
 exact (HB2.out.setCell (Nat.le_succ _) _).setCell (Nat.le_succ _) _
set_option maxHeartbeats 2000000 in
theorem take_yes {k:Nat} {c:Cel Nd} (k0:Int) (cd vl pt:ByteArray) (ya za:Option Addr) (yn yc zn zc:Nat) (pl di:Bool) (w:World) (h:SlabN 193 150 w b g l) (hF:z2s l (k:Int)) (hk:l[k]?=some c) (hr:c.room=true) :
 Calls Tryz.prog 69 #[.pointer (some ⟨b,0,none⟩),.agg #[.int .i64 k0,.string cd,.string vl,.string pt,.slice ya yn yc,.slice za zn zc,.bool pl,.bool di]] w fun e w'=>e=.returned (.tuple #[.agg #[.int .i64 k,.int .u32 (c.gen+1)],.int .i64 0])/\SlabN 193 150 w' b g (l.set k ⟨true,(⟨k0,cd,vl,pt,⟨ya,yn,yc⟩,⟨za,zn,zc⟩,pl,di⟩:Nd),c.gen+1⟩)/\Mod (·=g) w w':=by
 have hkl:k<l.length:=(List.getElem?_eq_some_iff.1 hk).1
 have hgl:=h.glt
 have hbl:=h.blt
 have hng:=h.ne
 have ht:=h.top
 have hgen:c.gen<4294967295:=by
  simp only[Cel.room,Bool.and_eq_true,decide_eq_true_eq] at hr
  exact hr.2
 have hgen0:0<=c.gen:=(h.hc.cell hk).2.2.1
 obtain⟨is,⟨kn,cd',vl',pt',⟨ya',yn',yc'⟩,⟨za',zn',zc'⟩,pl',di'⟩,gen⟩:=c
 simp only at hgen hgen0
 clear hr
 have HH:=hid h
 have hA:=(h.alloc (.cells #[.int .i64 k0,.string cd,.string vl,.string pt,.slice ya yn yc,.slice za zn zc,.bool pl,.bool di] 104)).alloc (.cells #[.int .i64 0,.int .u32 0] 36)
 have hN:=z0a (w.alloc (.cells #[.int .i64 k0,.string cd,.string vl,.string pt,.slice ya yn yc,.slice za zn zc,.bool pl,.bool di] 104)) (.cells #[.int .i64 0,.int .u32 0] 36)
 have hX:=z0c (o':=(.cells #[.int .i64 0,.int .u32 0] 36)) (z0a w (.cells #[.int .i64 k0,.string cd,.string vl,.string pt,.slice ya yn yc,.slice za zn zc,.bool pl,.bool di] 104))
 have hs1:(w.alloc (.cells #[.int .i64 k0,.string cd,.string vl,.string pt,.slice ya yn yc,.slice za zn zc,.bool pl,.bool di] 104)).heap.size=w.heap.size+1:=by simp
 rw[hs1] at hN
 clear hs1
 go_enter Tryz.func69,Tryz.ntmps69
 go_wp2_with fail
 refine (there_any _ hA).mono ?_
 rintro e w1 ⟨rfl,hw1⟩
 have h1:=hA.keep hw1
 have hN1:=z0b hN hw1 (by simp)
 have hX1:=z0b hX hw1 (by simp;omega)
 have HB1:Hid (Below w.heap.size w w1):=hid ((((Below.refl _ _).alloc (Nat.le_refl _) _).alloc (by simp) _).trans (hw1.mono (by simp;omega)))
 clear hw1 hA hN hX
 obtain⟨s0,sf⟩:=h1.head
 go_wp2_with fail
 refine (index_any _ _ h1.hc h1.top hF).mono ?_
 rintro e w2 ⟨rfl,hw2⟩
 have h2:=h1.keep hw2
 have hN2:=z0b hN1 hw2 (lt_of_block hN1)
 have hX2:=z0b hX1 hw2 (lt_of_block hX1)
 have hl2:=lt_of_block hN2
 have hl3:=lt_of_block hX2
 have HB2:Hid (Below w.heap.size w w2):=hid (HB1.out.trans (hw2.mono HB1.out.size))
 clear hw2 h1 hN1 hX1 s0 sf HB1
 go_wp2_with fail
 refine z0g 19 (fun w1=>Below (w2).heap.size (w2) w1) (by kernel_rfl) (by kernel_rfl) (by kernel_rfl) ⟨rfl,rfl,rfl,Nat.le_refl _,fun _ _=>rfl⟩ ?_
 dsimp only[List.take]
 iterate 19
  refine Seq.cons (a':=?_) ?_ ?_ ?_
  rotate_left
  ·intro w1 hw1
   have h2:=h2.keep hw1
   obtain⟨s0,sf⟩:=h2.head
   obtain⟨⟨c0,c1,c2,c3,c4,c5,c6,c7,c8,c9⟩,cf,_,_⟩:=h2.hc.cell hk
   simp only at c9
   have hX3:=z0b hX2 hw1 hl3
   have x0:=cell_of hX3 0
   have x1:=cell_of hX3 1
   have x2:=cell_of hX3 2
   have x3:=cell_of hX3 3
   have x4:=cell_of hX3 4
   have x5:=cell_of hX3 5
   have x6:=cell_of hX3 6
   have x7:=cell_of hX3 7
   clear c0 c1 c2 c3 c4 c5 c6 c7 c8 hX3
   go_wp2_with (fail)
   refine⟨?_,by first|assumption|(simpa using z0d hw1 hb hw1.size)⟩
   exact rfl
  ·kernel_rfl
 refine SeqI.nil ?_
 intro _ w1 _ hw1
 dsimp only[List.drop]
 have h3:=h2.keep hw1
 have hN3:=z0b hN2 hw1 hl2
 have HB3:Hid (Below w.heap.size w w1):=hid (HB2.out.trans (hw1.mono HB2.out.size))
 clear hw1 h2 hN2 HB2 hX2
 obtain⟨s0,sf⟩:=h3.head
 obtain⟨⟨c0,c1,c2,c3,c4,c5,c6,c7,c8,c9⟩,cf,_,_⟩:=h3.hc.cell hk
 simp only at c0 c1 c2 c3 c4 c5 c6 c7 c8 c9
 have n0:=cell_of hN3 0
 have n1:=cell_of hN3 1
 have nf:=z0e hN3
 have HP:=hid (h3.hc.put hk ⟨true,(⟨k0,cd,vl,pt,⟨ya,yn,yc⟩,⟨za,zn,zc⟩,pl,di⟩:Nd),gen+1⟩ ⟨by simp only;omega,by simp only;omega⟩)
 go_wp2_with fail
 refine bodyPost_ret (v:=.tuple #[.agg #[_,_],_]) (by simp[results,Tryz.results69,go_sem,n0,n1]) rfl ⟨rfl,?_⟩
 have e:∀ (W:World) (j:Nat) (v:Value),(W.setCell ⟨w.heap.size+1,j,none⟩ v).heap[g]?=W.heap[g]?:=fun W j v=>Below.heap_setCell _ _ _ _ (by intro e;simp at e;omega)
 have hC:=HP.out.same ((e _ 1 (.int .u32 (gen+1))).trans (e _ 0 (.int .i64 k)))
 have hM:Mod (·=g) w _:=(Mod.setCell (S:=(·=g)) (p:=⟨w.heap.size+1,1,none⟩) (Mod.setCell (S:=(·=g)) (p:=⟨w.heap.size+1,0,none⟩) (Mod.setCell (S:=(·=g)) (p:=⟨g,k * 10+9,none⟩) (Mod.setCell (S:=(·=g)) (p:=⟨g,k * 10+8,none⟩) (Mod.setCell (S:=(·=g)) (p:=⟨g,k * 10+7,none⟩) (Mod.setCell (S:=(·=g)) (p:=⟨g,k * 10+6,none⟩) (Mod.setCell (S:=(·=g)) (p:=⟨g,k * 10+5,none⟩) (Mod.setCell (S:=(·=g)) (p:=⟨g,k * 10+4,none⟩) (Mod.setCell (S:=(·=g)) (p:=⟨g,k * 10+3,none⟩) (Mod.setCell (S:=(·=g)) (p:=⟨g,k * 10+2,none⟩) (Mod.setCell (S:=(·=g)) (p:=⟨g,k * 10+1,none⟩) (Mod.setCell (S:=(·=g)) (p:=⟨g,k * 10,none⟩) (Mod.z0j HB3.out) (.inl rfl) (.bool true)) (.inl rfl) (.int .i64 k0)) (.inl rfl) (.string cd)) (.inl rfl) (.string vl)) (.inl rfl) (.string pt)) (.inl rfl) (.slice ya yn yc)) (.inl rfl) (.slice za zn zc)) (.inl rfl) (.bool pl)) (.inl rfl) (.bool di)) (.inl rfl) (.int .u32 (gen+1))) (.inr (Nat.le_succ _)) (.int .i64 k)) (.inr (Nat.le_succ _)) (.int .u32 (gen+1)))
 exact⟨HH.out.turn hC (by simp) hM,hM⟩
theorem madeCells_get {z:Array Value} {n j:Nat} (hz:z.size=10) (hj:j<n):(madeCells z n)[j]?=z[j % 10]?:=by
 have:j % 10<z.size:=by omega
 rw[Array.getElem?_eq_getElem this,<- getElem!_pos z (j % 10) this]
 simp[madeCells,hj,hz]
set_option maxRecDepth 20000 in
theorem new_any (n:Nat) (w:World) (h1:1<=n) (h2:n<=4096) :
 Calls Tryz.prog 53 #[.int .i64 n] w fun e w'=>∃ b g,e=.returned (.tuple #[.pointer (some ⟨b,0,none⟩),.int .i64 0])/\w.heap.size<=b/\w.heap.size<=g/\SlabN 193 150 w' b g (List.replicate n ⟨false,Nd.zero,0⟩)/\Below w.heap.size w w':=by
 obtain⟨i,hi,hz,hs,hby⟩:=info_parts (P:=Tryz.prog) (e:=193) (z:=.agg #[.bool false,.int .i64 0,.string ⟨#[]⟩,.string ⟨#[]⟩,.string ⟨#[]⟩,.slice none 0 0,.slice none 0 0,.bool false,.bool false,.int .u32 0]) (size:=10) (bytes:=128) (by kernel_rfl)
 have HI:=hid hi
 have HZ:=hid hz
 have HS:=hid hs
 have HY:=hid hby
 clear hi hz hs hby
 go_enter Tryz.func53,Tryz.ntmps53
 go_wp2_with (at_make;go_loud (refine wpList_make_full _ rfl _ _ 146 rfl w.heap.size 193 i _ 10 Tryz.underlying146 HI.out HZ.out HS.out _ _ _ _ n rfl rfl rfl rfl (by rw[HY.out];omega) (by simp[maxLen];omega) (Nat.le_refl _) ?_))
 intro w1 hown hgr
 go_wp2
 go_ret2
 have hB1:Below w.heap.size w w1:=⟨hgr.os,hgr.tape,hgr.output,hgr.size,fun k hk=>hgr.block k hk (by simp)⟩
 have hcl:=hown.cellAt
 have hlt:=(hown.lt w.heap.size rfl).2
 have hc:CellsN 193 w1 w.heap.size (List.replicate n ⟨false,Nd.zero,0⟩):=by
  refine⟨?_,fun c hc=>?_⟩
  ·rcases hown.2 with ⟨h,_⟩|⟨g',cap',cur,h,_,hg,_⟩
   ·simp at h
   ·simp only[Value.slice.injEq,Option.some.injEq,Addr.mk.injEq,and_true,true_and] at h
    obtain⟨rfl,rfl⟩:=h
    refine⟨cur,hg,fun j c hj o ho=>?_⟩
    have hjn:j<n:=by have:=(List.getElem?_eq_some_iff.1 hj).1;simpa using this
    have hcc:c=⟨false,Nd.zero,0⟩:=by
     have:=List.mem_of_getElem? hj
     exact List.eq_of_mem_replicate this
    subst hcc
    rw[<- cell_of hg,hcl (j * 10+o) (by omega),<- Array.getElem?_toList.symm]
    have:=madeCells_get (z:=#[.bool false,.int .i64 0,.string ⟨#[]⟩,.string ⟨#[]⟩,.string ⟨#[]⟩,.slice none 0 0,.slice none 0 0,.bool false,.bool false,.int .u32 0]) (n:=n * 10) (j:=j * 10+o) rfl (by omega)
    rw[this,show (j * 10+o) % 10=o by omega]
    exact List.getElem?_toArray
  ·have:=List.eq_of_mem_replicate hc
   subst this
   exact⟨by decide,by decide⟩
 refine⟨w1.heap.size,w.heap.size,rfl,hgr.size,Nat.le_refl _,⟨?_,hc.same (Below.heap_alloc _ _ _ hlt),by omega,by simpa using h1,by simpa using h2⟩,hB1.alloc hB1.size _⟩
 simpa using z0a w1 _
end Go.Proofs.YtgdmfledhhoedaaGreatDoor.S
namespace Go.Burg
open Go
section
variable {x:Int} (h0:0<=x) (h1:x<=18446744073709551615)
include h0 h1
end
end Go.Burg
namespace Go.Burg.Lk
abbrev Wd:={ x:Int // 0<=x/\x<=18446744073709551615 }
def Wd.dead (x:Wd):Bool:=decide (x.1 / 2 % 2=1)
def Wd.locked (x:Wd):Bool:=decide (x.1 % 2=1)
def Wd.free (x:Wd):Bool:=!x.locked && !x.dead
def Wd.held (x:Wd):Bool:=x.locked && !x.dead
def Wd.of (x:Int):Wd:=⟨IntKind.u64.wrap x,by
 have:IntKind.u64.wrap x=x % 18446744073709551616:=rfl
 rw[this];omega⟩
theorem Wd.of_in (x:Int) (h0:0<=x) (h1:x<=18446744073709551615):(Wd.of x).1=x:=by
 have:IntKind.u64.wrap x=x % 18446744073709551616:=rfl
 show IntKind.u64.wrap x=x
 rw[this];omega
theorem Wd.val (x:Wd):Wd.of x.1=x:=Subtype.ext (Wd.of_in _ x.2.1 x.2.2)
def Wd.lock (x:Wd):Wd × Bool:=if x.free then (Wd.of (x.1+1),true) else (x,false)
def Wd.drop (x:Wd):Wd × Bool:=if x.held then (Wd.of (x.1 - 1),true) else (x,false)
def Wd.done (x:Wd):Wd × Bool:=if x.held then (Wd.of (x.1 - 1+4),true) else (x,false)
def Wd.kill (x:Wd):Wd × Bool:=if x.held then (Wd.of ((Wd.of (x.1 - 1+4)).1+2),true) else (x,false)
def Wd.turn (x:Wd) (how:Nat):Wd × Bool:=match how with|0=>x.drop|1=>x.done|_=>x.kill
end Go.Burg.Lk
namespace Go.Proofs.YtgdmfledhhoedaaGreatDoor.K
set_option maxRecDepth 8000
open Go.ChangeShapes Go.WideShapes Go.ChangeAt Go.RowKit Go.Burg
open Go.Burg.Lk
variable {B b n:Nat} {a w:World}
theorem z0b {w1:World} {o:Obj} (h:w.heap[b]?=some o) (hb:Below B w w1) (hB:b<B):w1.heap[b]?=some o:=(hb.block b hB).trans h
theorem z0c {o o':Obj} (h:w.heap[b]?=some o):(w.alloc o').heap[b]?=some o:=(Below.heap_alloc _ _ _ (lt_of_block h)).trans h
theorem below_drewN {b:World} (h:Below B a b):Below B a (b.drewN n):=⟨h.os,h.tape,h.output,h.size,h.block⟩
theorem mod_drewN {S:Nat->Prop} {b:World} (h:Mod S a b):Mod S a (b.drewN n):=⟨h.os,h.tape,h.output,h.size,h.block⟩
def wV (x:Wd):Value:=.int .u64 x.1
end Go.Proofs.YtgdmfledhhoedaaGreatDoor.K
