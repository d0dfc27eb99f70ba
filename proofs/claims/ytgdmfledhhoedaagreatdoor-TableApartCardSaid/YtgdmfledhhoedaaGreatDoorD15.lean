/- Part 15 of 27. -/
import Derived.Test.YtgdmfledhhoedaaGreatDoorD02
import Derived.Test.YtgdmfledhhoedaaGreatDoorD13
import Derived.Test.YtgdmfledhhoedaaGreatDoorD14
namespace Go.Proofs.YtgdmfledhhoedaaGreatDoor.T
set_option maxRecDepth 8000
open Go.ChangeShapes Go.WideShapes Go.ChangeAt Go.RowKit Go.Burg
open Go.Burg.Lk
structure PutS (B:Nat) (vb sp rb g wc:Nat) (ch:Array Value) (s:SpotP) (r:Int × Int) (W:World):Prop where
 c:W.heap[vb]?=some (.cells ch 90 (0,0))
 s:SpotAt W sp g wc s
 r:W.heap[rb]?=some (.cells #[.int .i64 r.1,.int .u32 r.2] 36 (0,0))
 l:B<=vb/\B<=sp/\B<=rb/\B<=g
theorem PutS.keep {B:Nat} {vb sp rb g wc:Nat} {ch:Array Value} {s:SpotP} {r:Int × Int} {W W':World} (h:PutS B vb sp rb g wc ch s r W) (hb:Below W.heap.size W W'):PutS B vb sp rb g wc ch s r W' :=
 ⟨(hb.block _ (lt_of_block h.c)).trans h.c,h.s.keep hb,(hb.block _ (lt_of_block h.r)).trans h.r,h.l⟩
variable {g i j k wc yc yn zc zn:Nat} {w w':World}
theorem SpotAt.mod' {S:Nat->Prop} {b:Nat} {s:SpotP} (h:SpotAt w b g wc s) (hM:Mod S w w') (h1:¬ S b) (h2:¬ S g):SpotAt w' b g wc s :=
 ⟨(hM.block _ (lt_of_block h.h) h1).trans h.h,O.z0h h.o hM (fun j hj e=>by simp only[Value.ownBlock,Option.some.injEq] at hj;subst hj;exact h2 e),h.n,h.m⟩
theorem PutS.mod {S:Nat->Prop} {B:Nat} {vb sp rb:Nat} {ch:Array Value} {s:SpotP} {r:Int × Int} {W W':World} (h:PutS B vb sp rb g wc ch s r W) (hM:Mod S W W') (hS:¬ S vb/\¬ S sp/\¬ S rb/\¬ S g):PutS B vb sp rb g wc ch s r W' :=
 ⟨(hM.block _ (lt_of_block h.c) hS.1).trans h.c,h.s.mod' hM hS.2.1 hS.2.2.2,(hM.block _ (lt_of_block h.r) hS.2.2.1).trans h.r,h.l⟩
structure SetJ (w0:World) (t sb sg kb km:Nat) (l:List (Cel Nd)) (L:List (RefK × Wd)) (tk:Int) (w:World):Prop where
 m:Mod (·=sg) w0 w
 t:TreeAt w t sb sg kb km l L tk
theorem z1w {S:Nat->Prop} (h:RoomsAt w) (hM:Mod S w w') (h0:¬ S 0):RoomsAt w':=h.same (hM.block 0 h.lt h0)
variable {l:List (Cel Nd)} {P:List (Cel PNd)}
theorem Rel.cell (h:Rel w l P) {j:Nat} {p:Cel PNd} (hj:P[j]?=some p):∃ c,l[j]?=some c/\c.is=p.is/\c.gen=p.gen/\c.room=p.room:=by
 have hi:j<l.length:=by rw[h.len];exact (List.getElem?_eq_some_iff.1 hj).1
 obtain⟨p',g1,g2,g3,_⟩:=h.at_ j _ (List.getElem?_eq_getElem hi)
 rw[hj] at g1
 cases g1
 exact⟨l[j],List.getElem?_eq_getElem hi,g2.symm,g3.symm,by unfold Cel.room;rw[g2,g3]⟩
theorem roomOf_le (k:Nat):z0v k<=256:=by rcases k with _|_|_|_|_|_|k<;>simp[z0v]
def tdP (j:Nat) (x:Value):Value:=match j with
 | 12=>tupAt x 0
 | 13=>tupAt x 1
 | _=>x
variable {di pl:Bool} {pt:ByteArray} {pj:Cel PNd} {Lk:List Kd}
set_option maxRecDepth 20000 in
set_option maxHeartbeats 8000000 in
theorem Put_bare {t sb sg kb km ir:Nat} {L:List (RefK × Wd)} {tk:Int} {slot gen:Int} {c v:ByteArray} {q:PNd} {s:SpotP} {r:Int × Int} (w:World) (h:TreeAt w t sb sg kb km l L tk) (hR:Rel w l P) (hr:RoomsAt w) (hc:z2l c) (hv:v.size<=32) (hq:z0l P slot gen i q) (hp:q.planted=true) (hs:SeekW P c (slot,gen) 0 [] s) (hw:s.what=2)
 (hrl:s.way[s.way.length - 1]?=some r) (hqr:z0l P r.1 r.2 ir ⟨.z0k k pt Lk,pl,di⟩) (hgr:(!pl && !(((kindOf (Lk.length+1):Nat):Int) == k))=false) (hF:z2s P (j:Int)) (hj:P[j]?=some pj) (hjr:pj.room=true) (hjn:j≠ir)
 (hat:s.at_<256) (hok:(⟨s.at_,j,pj.gen+1⟩:Kd).ok) (hf:z0p Lk s.at_=none) (hl:Lk.length+1<=z0v (max (O.kOf pl k (Lk.length+1)) k)) (h5:max (O.kOf pl k (Lk.length+1)) k<=5) (h0:¬ TOwn sg km 0) (hmb:O.MayB (O.kOf pl k (Lk.length+1)) (Lk.length+1) pt) (rr:RefK) (hr1:rr.1.1=j) (hr2:rr.1.2=pj.gen+1) :
 Calls Tryz.prog 8 #[.pointer (some ⟨t,0,none⟩),.agg #[.int .i64 slot,.int .u32 gen],.string c,.string v] w fun e w'=>e=.returned (.tuple #[.slice none 0 0,.int .i64 0]) /\
  z0s w' t sb sg kb km ((P.set j ⟨true,⟨.leaf c v,false,false⟩,pj.gen+1⟩).set ir ⟨true,⟨.z0k (O.kOf pl k (Lk.length+1)) pt (insK Lk ⟨s.at_,j,pj.gen+1⟩),pl,di⟩,r.2⟩) (K.addL L rr).2 tk/\Mod (TOwn sg km) w w':=by
 have b0:=z0a w (.cells #[.int .i64 slot,.int .u32 gen] 36 (0,0))
 have hB:Below w.heap.size w (w.alloc (.cells #[.int .i64 slot,.int .u32 gen] 36 (0,0))):=(Below.refl _ _).alloc (Nat.le_refl _) _
 obtain⟨⟨xis,⟨kn,cd,vl,xp,⟨ya,yn,yc⟩,⟨za,zn,zc⟩,xpl,xdi⟩,xgn⟩,hLx,hplx,hdix,hNx⟩:=hR.live hqr
 obtain⟨rfl,rfl,rfl,rfl,hNI,hMB⟩:=hNx
 simp only at hplx hdix hNI
 obtain rfl:zn=Lk.length:=O.z1u hNI.z
 obtain rfl:xis=true:=hLx.2.2.1
 subst hplx hdix
 obtain rfl:xgn=r.2:=hLx.2.2.2
 have hwp:=SeekW.z1o hs
 have hzn:Lk.length<=1000:=by have:=hNI.room;omega
 have HPL:=hid (Plan_put2 (w.alloc (.cells #[.int .i64 slot,.int .u32 gen] 36 (0,0))) (h.keep hB) (hR.keep hB) (hr.keep hB) hc hq hp hs hw 1 [] 1 (fun w1 b g wc hb1 hsa hwc=>(bare_no w1 ((h.keep hB).keep hb1) ((hr.keep hB).keep hb1) hzn hsa hwc hrl hLx hgr).mono (fun e w' h=>⟨none,0,h.1,World.ownsRow_nil _ _ _ _,h.2⟩)))
 have dv:decide ((v.size:Int) > 32)=false:=by simp;omega
 have HFl:=hid (hR.first hF)
 obtain⟨cj,hcj,_,hcg,hcr⟩:=hR.cell hj
 have HCJ:=hid (And.intro hcj (And.intro hcg (hcr.trans hjr)))
 have HLT:=hid (And.intro (lt_of_block h.ht) (And.intro h.hs.blt (And.intro h.hs.glt h.hk.lt)))
 have HT:=hid h
 have HR:=hid hR
 clear hcj hcg hcr hF hj hjr
 have HRM:=hid hr
 clear h hR hr
 go_enter Tryz.func8,Tryz.ntmps8
 go_wp2_with ((go_at_call 28;refine HPL.out.mono ?_;rintro e w2 ⟨g,wc,da,dc,rfl,how,hod,hb2⟩;unfold z2k;go_loud (have h0:=(hb2.block _ (lt_of_block b0)).trans b0;have hc2:=z0a w2 (.cells #[(.slice (some ⟨g,(s.way.length - 1) * 2,none⟩) 1 (wc - (s.way.length - 1))),.slice da 0 dc,.int .i64 1] 90 (0,0));have hbc:Below w2.heap.size w2 (w2.alloc (.cells #[(.slice (some ⟨g,(s.way.length - 1) * 2,none⟩) 1 (wc - (s.way.length - 1))),.slice da 0 dc,.int .i64 1] 90 (0,0))):=(Below.refl _ _).alloc (Nat.le_refl _) _;have hbw2:=hB.trans (hb2.mono hB.size);have HB2:=hid (hbw2.trans (hbc.mono hbw2.size));have HC2:=hid hc2;have H02:=hid ((hbc.block _ (lt_of_block h0)).trans h0);clear h0 hc2 hbc hbw2 how hod hb2)))
 have hvb0:=hid (show w.heap.size<=w2.heap.size by have:=lt_of_block H02.out;simp at this;omega)
 generalize hWA:w2.alloc (.cells #[(.slice (some ⟨g,(s.way.length - 1) * 2,none⟩) 1 (wc - (s.way.length - 1))),.slice da 0 dc,.int .i64 1] 90 (0,0))=WA at *
 generalize w2.heap.size=vb at *
 have hrm:1<=z1j l:=roomN_pos HFl.out
 have hd6:decide (((z1j l:Nat):Int)<1)=false:=by simp;omega
 have hTA:=HT.out.keep HB2.out
 have HTA:=hid hTA
 clear hTA hWA
 refine z0g 10 (fun w1=>Below (WA).heap.size (WA) w1) (by kernel_rfl) (by kernel_rfl) (by kernel_rfl) ⟨rfl,rfl,rfl,Nat.le_refl _,fun _ _=>rfl⟩ ?_
 dsimp only[List.take]
 iterate 10
  refine Seq.cons (a':=?_) ?_ ?_ ?_
  rotate_left
  ·intro w1 hw1
   have t0:=cell_of (HTA.out.keep hw1).ht 0;have c2:=cell_of (z0b HC2.out hw1 (lt_of_block HC2.out)) 2
   go_wp2_with (go_at_call 29;refine (S.left_any _ (HTA.out.keep hw1).hs).mono ?_;rintro e w' ⟨rfl,hb⟩)
   refine⟨?_,by first|assumption|(simpa using z0d hw1 hb hw1.size)⟩
   exact rfl
  ·kernel_rfl
 refine SeqI.nil ?_
 intro _ w1 _ hw1
 dsimp only[List.drop]
 have hbw:=HB2.out.trans (hw1.mono HB2.out.size)
 have h02:=z0b H02.out hw1 (lt_of_block H02.out)
 have a0:=cell_of h02 0
 have a1:=cell_of h02 1
 have HC3:=hid (z0b HC2.out hw1 (lt_of_block HC2.out))
 have HSK:=hid (Seek_at w1 (HT.out.keep hbw) (HR.out.keep hbw) (HRM.out.keep hbw) hc hq hp hs)
 have HBW:=hid hbw
 clear hw1 h02 hbw HPL H02 HC2 HB2
 have HWH:=hid hw
 have HRL:=hid hrl
 have HS:=hid hs
 go_wp2_with (first|(go_at_call 30;refine HSK.out.mono ?_;rintro e w4 ⟨wa,wc4,rfl,how,hb4⟩;rw[HWH.out];go_loud (obtain⟨g4,rfl,lg,_⟩:=O.z0z (z2g how (Nat.zero_le _)) (SeekW.z1o HS.out);have hg4:=(O.z2a how rfl).1;have hsp4:=z0a w4 (.cells #[.int .i64 2,.slice (some ⟨g4,0,none⟩) s.way.length wc4,.int .i64 s.at_,.int .i64 s.depth] 107 (0,0));have hbs:Below w4.heap.size w4 (w4.alloc (.cells #[.int .i64 2,.slice (some ⟨g4,0,none⟩) s.way.length wc4,.int .i64 s.at_,.int .i64 s.depth] 107 (0,0))):=(Below.refl _ _).alloc (Nat.le_refl _) _;have hwm:s.way.length<=100:=(by have h1:=SeekW.way_le HS.out;have h2:=hc.size;simp only[List.length_nil] at h1;omega);have hSA:SpotAt (w4.alloc (.cells #[.int .i64 2,.slice (some ⟨g4,0,none⟩) s.way.length wc4,.int .i64 s.at_,.int .i64 s.depth] 107 (0,0))) w4.heap.size g4 wc4 s:=⟨(by rw[HWH.out];exact hsp4),z2g (O.z0h how (O.z0n (S:=fun _=>False) hbs) (fun _ _ h=>h)) (Nat.zero_le _),SeekW.z1o HS.out,hwm⟩;have HUP:=hid (up_at (k:=0) hSA (SeekW.z1o HS.out) (by simpa using HRL.out));have hb14:=hb4.trans (hbs.mono hb4.size);have HC4:=hid ((hb14.block _ (lt_of_block HC3.out)).trans HC3.out);have HB4:=hid (HBW.out.trans (hb14.mono HBW.out.size));have HSA:=hid hSA;have HG4:=hid hg4;have HL4:=hid (HBW.out.trans (hb4.mono HBW.out.size)).size;clear how hb4 lg hg4 hsp4 hbs hwm hSA hb14))|(go_at_call 31;refine HUP.out.mono ?_;rintro e w5 ⟨rfl,hb5⟩;go_loud (have hr5:=z0a w5 (.cells #[.int .i64 r.1,.int .u32 r.2] 36 (0,0));have hbr:Below w5.heap.size w5 (w5.alloc (.cells #[.int .i64 r.1,.int .u32 r.2] 36 (0,0))):=(Below.refl _ _).alloc (Nat.le_refl _) _;have hb45:=hb5.trans (hbr.mono hb5.size);have hPS:PutS w.heap.size vb w4.heap.size w5.heap.size g4 wc4 #[(.slice (some ⟨g,(s.way.length - 1) * 2,none⟩) 1 (wc - (s.way.length - 1))),.slice da 0 dc,.int .i64 1] s r (w5.alloc (.cells #[.int .i64 r.1,.int .u32 r.2] 36 (0,0))):=⟨(hb45.block _ (lt_of_block HC4.out)).trans HC4.out,HSA.out.keep hb45,hr5,(by have:=HB4.out.size;have:=hb5.size;have:=HG4.out;have:=HBW.out.size;exact⟨hvb0.out,HL4.out,by omega,by omega⟩)⟩;have HPS:=hid hPS;have HBP:=hid (HB4.out.trans (hb45.mono HB4.out.size));clear hr5 hbr hb45 hPS hb5)))
 clear HUP HC4 HB4 HSA HG4 HL4 HSK HC3 HBW HTA a0 a1
 generalize hWX:w5.alloc (.cells #[.int .i64 r.1,.int .u32 r.2] 36 (0,0))=W at *
 generalize w4.heap.size=sp at *
 generalize w5.heap.size=rb at *
 clear hWX
 have hTW:=HT.out.keep HBP.out
 have HTW:=hid hTW
 have HPN:Hid (∀ w1,Below W.heap.size W w1->Calls Tryz.prog 32 #[.pointer (some ⟨t,0,none⟩),.agg #[.int .i64 r.1,.int .u32 r.2]] w1 fun e w'=>e=.returned (.agg #[.int .i64 k,.string ⟨#[]⟩,.string ⟨#[]⟩,.string xp,.slice ya yn yc,.slice za Lk.length zc])/\Below w1.heap.size w1 w'):=hid (fun w1 hw1=>node_at r.1 r.2 w1 (HTW.out.keep hw1) hLx)
 have n0:=cell_of HPS.out.r 0
 have n1:=cell_of HPS.out.r 1
 have t0:=cell_of hTW.ht 0
 have l0:=lt_of_block HPS.out.r
 have l1:=lt_of_block hTW.ht
 clear hTW
 have HNT:Hid (¬ TOwn sg km vb/\¬ TOwn sg km sp/\¬ TOwn sg km rb/\¬ TOwn sg km g4):=hid (by have:=HPS.out.l;have:=HLT.out;refine⟨?_,?_,?_,?_⟩<;>rintro (e|e)<;>omega)
 go_region_with (go_at_call 32;refine (HPN.out _ (by (repeat (first|exact Below.refl _ _|assumption|with_reducible refine Below.drew ?_|with_reducible refine below_drewN ?_|with_reducible refine Below.setCell ?_ (by first|(simp;done)|(simp;omega)) _|with_reducible refine Below.alloc ?_ (by first|exact Nat.le_refl _|(simp;done)|(simp;omega)) _)))).mono ?_;rintro e w2 ⟨rfl,hw2⟩;(try (have z:=(hw2.block W.heap.size (by simp)).trans (z0a W (.cells #[.int .i64 0,.string ⟨#[]⟩,.string ⟨#[]⟩,.string ⟨#[]⟩,.slice none 0 0,.slice none 0 0] 102 (0,0)));have z0:=cell_of z 0;have z1:=cell_of z 1;have z2:=cell_of z 2;have z3:=cell_of z 3;have z4:=cell_of z 4;have z5:=cell_of z 5;have zf:=z0e z));have HW2:Hid (Below W.heap.size W w2):=hid (z0d (by (repeat (first|exact Below.refl _ _|assumption|with_reducible refine Below.drew ?_|with_reducible refine below_drewN ?_|with_reducible refine Below.setCell ?_ (by first|(simp;done)|(simp;omega)) _|with_reducible refine Below.alloc ?_ (by first|exact Nat.le_refl _|(simp;done)|(simp;omega)) _))) hw2 (by first|exact Nat.le_refl _|(simp;done)|(simp;omega)));clear hw2)
 all_goals first|(have hmid:=nodeB (k:=k) (cd:=⟨#[]⟩) (vl:=⟨#[]⟩) (pt:=xp) (ya:=ya) (za:=za) (yn:=yn) (yc:=yc) (zn:=Lk.length) (zc:=zc) HW2.out z;generalize hE:((((((w2.setCell ⟨W.heap.size,0,none⟩ (.int .i64 k)).setCell ⟨W.heap.size,1,none⟩ (.string ⟨#[]⟩)).setCell ⟨W.heap.size,2,none⟩ (.string ⟨#[]⟩)).setCell ⟨W.heap.size,3,none⟩ (.string xp)).setCell ⟨W.heap.size,4,none⟩ (.slice ya yn yc)).setCell ⟨W.heap.size,5,none⟩ (.slice za Lk.length zc))=w3 at hmid ⊢;generalize hEu:W.heap.size=u at hmid ⊢)|(have hmid:=nmidA (o:=(.cells #[.int .i64 k,.string ⟨#[]⟩,.string ⟨#[]⟩,.string xp,.slice ya yn yc,.slice za Lk.length zc] 102 (0,0))) HW2.out;generalize hE:w2.alloc (.cells #[.int .i64 k,.string ⟨#[]⟩,.string ⟨#[]⟩,.string xp,.slice ya yn yc,.slice za Lk.length zc] 102 (0,0))=w3 at hmid ⊢;generalize hEu:w2.heap.size=u at hmid ⊢)
 all_goals
  try clear z z0 z1 z2 z3 z4 z5 zf
  clear hE hEu HPN n0 n1 t0 HW2 l0 l1
  obtain⟨hb3,hu,ho⟩:=hmid
  have HPS3:=hid (HPS.out.keep hb3)
  have HB3:=hid (HBP.out.trans (hb3.mono HBP.out.size))
  have HT3:=hid (HT.out.keep HB3.out)
  have HO3:=hid ho
  have hul:w.heap.size<=u:=Nat.le_trans HBP.out.size hu
  have hur:vb<u/\sp<u/\rb<u/\g4<u:=⟨Nat.lt_of_lt_of_le (lt_of_block HPS.out.c) hu,Nat.lt_of_lt_of_le (lt_of_block HPS.out.s.h) hu,Nat.lt_of_lt_of_le (lt_of_block HPS.out.r) hu,Nat.lt_of_lt_of_le HPS.out.s.glt hu⟩
  have HU:=hid (And.intro hul hur)
  have s0:=cell_of HPS3.out.s.h 0
  rw[HWH.out] at s0
  have HTK:=hid (take_at 1 c v ⟨#[]⟩ none none 0 0 0 0 false w3 HT3.out HFl.out HCJ.out.1 HCJ.out.2.2 rr hr1 (hr2.trans (by rw[HCJ.out.2.1])))
  rw[HCJ.out.2.1] at HTK
  clear hb3 hu ho hul hur HPS HTW HBP
  go_wp2_with (go_at_call 34;refine HTK.out.mono ?_;rintro e w6 ⟨rfl,hT6,hM6⟩;go_loud (have hps6:=HPS3.out.mod hM6 HNT.out;have ss0:∀ o,(w6.alloc o).cell? ⟨sp,0,none⟩=some (.int .i64 2):=(fun o=>by have hq:=cell_of (z0c (o':=o) hps6.s.h) 0;rw[HWH.out] at hq;exact hq);have HPS6:=hid hps6;have HT6:=hid hT6;have HM6:=hid hM6;clear hps6 hT6 hM6))
  have hwr:IntKind.u8.wrap ((s.at_:Nat):Int)=((s.at_:Nat):Int):=by rw[IntKind.wrap_u8];omega
  have h7:=z0a w6 (.cells #[.int .i64 j,.int .u32 (pj.gen+1)] 36 (0,0))
  have hb7:Below w6.heap.size w6 (w6.alloc (.cells #[.int .i64 j,.int .u32 (pj.gen+1)] 36 (0,0))):=(Below.refl _ _).alloc (Nat.le_refl _) _
  have hM7:Mod (TOwn sg km) w (w6.alloc (.cells #[.int .i64 j,.int .u32 (pj.gen+1)] 36 (0,0))):=((Mod.z0j (S:=TOwn sg km) HB3.out).trans HM6.out (fun _ _ h=>h)).alloc _
  have hu7:=(hb7.block u (by have:=lt_of_block HO3.out;have:=HM6.out.size;omega)).trans ((HM6.out.block u (lt_of_block HO3.out) (by have:=HLT.out;have:=HU.out;rintro (e|e)<;>omega)).trans HO3.out)
  have hlu:u<w6.heap.size:=by have:=lt_of_block HO3.out;have:=HM6.out.size;omega
  have HT7:=hid (HT6.out.keep hb7)
  have HP7:=hid (HPS6.out.keep hb7)
  clear ss0 HTK s0
  generalize hW7:w6.alloc (.cells #[.int .i64 j,.int .u32 (pj.gen+1)] 36 (0,0))=W7 at *
  generalize w6.heap.size=lf at *
  clear hb7 hW7 HPS3 HPS6 HT6 HM6 HT3
  have HM7:=hid hM7
  have H7:=hid h7
  have HU7:=hid hu7
  have HR7:=hid (z1w HRM.out hM7 h0)
  have HN7:Hid (O.NodeIn W7 k xp ya yn yc za Lk.length zc Lk):=hid ⟨O.z0h hNI.b hM7 (fun k' hk hs=>own_not hNI.b (.inl rfl) hk (HT.out.noRow k' hs)),O.z0h hNI.z hM7 (fun k' hk hs=>own_not hNI.z (.inr rfl) hk (HT.out.noRow k' hs)),hNI.k1,hNI.k2,hNI.p,hNI.len,hNI.rise,hNI.ok⟩
  have HL7:Hid (S.Live (l.set j ⟨true,(⟨1,c,v,⟨#[]⟩,⟨none,0,0⟩,⟨none,0,0⟩,false,false⟩:Nd),pj.gen+1⟩) r.1 r.2 ir ⟨true,⟨k,⟨#[]⟩,⟨#[]⟩,xp,⟨ya,yn,yc⟩,⟨za,Lk.length,zc⟩,xpl,xdi⟩,r.2⟩):=hid ⟨hLx.1,by rw[List.getElem?_set_ne hjn];exact hLx.2.1,rfl,hLx.2.2.2⟩
  have hll:=HLT.out
  clear h7 hM7 hu7
  have hxt:∀ w1,Mod (·=u) W7 w1->Below w.heap.size W7 w1:=fun w1 hM=>⟨hM.os,hM.tape,hM.output,hM.size,fun b hb=>hM.block b (Nat.lt_of_lt_of_le hb HM7.out.size) (show ¬ b=u by have:=HU.out;omega)⟩
  have HXT:=hid hxt
  clear hxt
  have HUD:=hid (show ¬ sp=u/\¬ rb=u/\¬ lf=u/\¬ vb=u/\¬ g4=u by have:=HU.out;omega)
  have hkd2:=O.kOf_ok (a:=xpl) (k:=k) (n:=Lk.length+1) (Nat.le_trans hl (roomOf_le _)) hNI.k1 hNI.k2
  have HN8:Hid ((insK Lk (⟨s.at_,j,pj.gen+1⟩:Kd)).length=Lk.length+1):=hid (z2y _ _)
  have HF:=hid hf
  have HOK:=hid hok
  have HMB:=hid hMB
  have HQ:=hid (And.intro hl h5)
  have HPL:=hid (fun w1 hM=>planted_at r.1 r.2 w1 (HT7.out.mod (S:=(·=u)) hM (show ¬ t=u by have:=HU.out;omega) (show ¬ sb=u by have:=HU.out;omega) (show ¬ sg=u by have:=HU.out;omega) (show ¬ kb=u by have:=HU.out;omega) (show ¬ km=u by have:=HU.out;omega)) HL7.out)
  refine z0r 15 [10,11,12,13] (fun xs=>[.agg #[.int .i64 k,.string ⟨#[]⟩,.string ⟨#[]⟩,.string xp,.slice ya yn yc,.slice za Lk.length zc],.pointer (some ⟨sp,2,none⟩),.int .i64 s.at_,.int .u8 s.at_,.agg #[.int .i64 j,.int .u32 (pj.gen+1)],.pointer (some ⟨t,0,none⟩),.pointer (some ⟨t,0,none⟩),.pointer (some ⟨t,0,none⟩),.agg #[.int .i64 r.1,.int .u32 r.2],.bool xpl,xs 10,xs 11,xs 12,xs 13,undef]) (GJ 102 (TurnF (O.kOf xpl k (Lk.length+1)) xp (Lk.length+1) u (insK Lk (⟨s.at_,j,pj.gen+1⟩:Kd))) W7 u 10 14 [] [11,12,13] [(10,0)] (fun _=>undef) tdP #[.int .i64 k,.string ⟨#[]⟩,.string ⟨#[]⟩,.string xp,.slice ya yn yc,.slice za Lk.length zc] (fun x=>match tupAt x 0 with | .agg cs=>cs|_=>#[])) ?h0 (fun xs ys h=>by simp[h]) ?hs ?hend
  case h0=>exact GJ.start HU7.out
  case hs =>
   dsimp only[List.take,z1c,OpT,z1s]
   (repeat' refine And.intro ?_ ?_)<;>first|refine .inl ⟨rfl,?_⟩|refine .inr ⟨rfl,?_⟩
   ·intro D xs w1 hDk hwt hJ
    have h14:D 14=false:=by
     cases e:D 14
     ·rfl
     ·have:=hJ.p 10 0 (by decide) (hJ.s e)
      rw[this] at hDk
      cases hDk
    have hc:=hJ.c
    rw[h14] at hc
    simp only[cond_false] at hc
    have q0:=cell_of hc 0;have q1:=cell_of hc 1;have q2:=cell_of hc 2;have q3:=cell_of hc 3;have q4:=cell_of hc 4;have q5:=cell_of hc 5;clear hc
    have HJ:=hid hJ
    clear hDk hwt hJ
    go_wp2_with fail
    refine⟨by kernel_rfl,?_⟩;(try intro _ _);exact GJ.calm z1a HJ.out (Below.refl _ _)
   iterate 8
    ·intro D xs w1 hDk hwt hJ
     have s2:=cell_of ((hJ.m.block _ (lt_of_block HP7.out.s.h) HUD.out.1).trans HP7.out.s.h) 2
     have qc:=(hJ.m.block _ (lt_of_block H7.out) HUD.out.2.2.1).trans H7.out
     have q0:=cell_of qc 0
     have q1:=cell_of qc 1
     have qd:=(hJ.m.block _ (lt_of_block HP7.out.r) HUD.out.2.1).trans HP7.out.r
     have n0:=cell_of qd 0
     have n1:=cell_of qd 1
     clear qc qd
     have HJ:=hid hJ
     clear hDk hwt hJ
     go_wp2_with fail
     refine⟨by kernel_rfl,?_⟩;(try intro _ _);exact GJ.calm z1a HJ.out (Below.refl _ _)
   ·intro D xs w1 hDk hwt hJ
    have HPL1:=hid (HPL.out w1 hJ.m)
    have HJ:=hid hJ
    clear hDk hwt hJ
    go_wp2_with (go_at_call 37;refine HPL1.out.mono ?_;rintro e w8 ⟨rfl,hb8⟩)
    refine⟨by kernel_rfl,?_⟩;(try intro _ _);exact GJ.calm z1a HJ.out (hb8)
   ·intro D xs w1 hDk hwt hJ
    have hD:D 10=false:=hDk
    have hNw:O.NodeIn w1 k xp ya yn yc za Lk.length zc Lk:=⟨O.z0h HN7.out.b hJ.m (O.z1m HN7.out.b HU7.out (by decide)),O.z0h HN7.out.z hJ.m (O.z1m HN7.out.z HU7.out (by decide)),hNI.k1,hNI.k2,hNI.p,hNI.len,hNI.rise,hNI.ok⟩
    have HTN:=hid (O.Add_at s.at_ j (pj.gen+1) xpl HOK.out HF.out HQ.out.1 HQ.out.2 hNw (z1w HR7.out hJ.m (show ¬ (0:Nat)=u by have:=HU.out;omega)) HMB.out)
    have h14:D 14=false:=by
     cases e:D 14
     ·rfl
     ·rw[hJ.s e] at hD;cases hD
    have hc:=hJ.c
    rw[h14] at hc
    simp only[cond_false] at hc
    have HC:=hid hc
    have HJ:=hid hJ
    have HWT:=hid hwt
    clear hDk hwt hJ hc hNw
    go_wp2_with (go_at_call 36;refine HTN.out.mono ?_;rintro e w8 ⟨cs,rfl,hG,hb8⟩)
    obtain⟨k2,k3,k4⟩:=hkd2 (fun e=>by have:=HQ.out.1;subst e;simpa[O.kOf] using this)
    obtain⟨ya',yc',za',zc',rfl,hN8⟩:=hG.node k2 k3 hNI.p (by rw[HN8.out];exact k4) (insK_rise hNI.rise HF.out) (O.insK_ok hNI.ok HOK.out)
    rw[HN8.out] at hN8
    try rw[HN8.out]
    have hF8:=turnF_of hN8 ((hb8.block _ (lt_of_block HC.out)).trans HC.out)
    exact⟨_,by kernel_rfl,fun q hq=>by obtain rfl:=hq rfl;exact GJ.call HJ.out hD hF8 hb8 (fun j' h=>by simp at h;subst h;exact HWT.out 0 (eM (by kernel_rfl)))⟩
   ·intro D xs w1 hDk hwt hJ
    have h10:D 10=true:=hwt 10 (eM (by kernel_rfl))
    obtain⟨ya',yc',za',zc',ea,_⟩:=hJ.l h10
    have HEA:=hid ea
    rw[ea]
    have HJ:=hid hJ
    try clear e9
    clear hDk hwt hJ
    try clear ea
    go_wp2_with fail
    first|exact⟨_,by kernel_rfl,fun q hq=>by obtain rfl:=hq rfl;exact GJ.dep HJ.out h10 (by rw[HEA.out])⟩|exact⟨_,by kernel_rfl,GJ.dep HJ.out h10 (by rw[HEA.out])⟩
   iterate 2
    ·intro D xs w1 hDk hwt hJ
     obtain⟨h10,e8⟩:=hJ.e 11 (hwt 11 (eM (by kernel_rfl))) (by decide)
     obtain⟨ya',yc',za',zc',ea,_⟩:=hJ.l h10
     have e9:xs 11=.tuple #[.agg #[.int .i64 (O.kOf xpl k (Lk.length+1)),.string ⟨#[]⟩,.string ⟨#[]⟩,.string xp,.slice ya' (Lk.length+1) yc',.slice za' (Lk.length+1) zc'],.int .i64 0]:=by rw[e8,ea];rfl
     clear e8
     have HEA:=hid ea
     rw[e9]
     have HJ:=hid hJ
     try clear e9
     clear hDk hwt hJ
     try clear ea
     go_wp2_with fail
     first|exact⟨_,by kernel_rfl,fun q hq=>by obtain rfl:=hq rfl;exact GJ.dep HJ.out h10 (by rw[HEA.out])⟩|exact⟨_,by kernel_rfl,GJ.dep HJ.out h10 (by rw[HEA.out])⟩
   ·intro D xs w1 hDk hwt hJ
    have hD:D 14=false:=hDk
    obtain⟨h10,e8⟩:=hJ.e 12 (hwt 12 (eM (by kernel_rfl))) (by decide)
    obtain⟨ya',yc',za',zc',ea,_⟩:=hJ.l h10
    have e9:xs 12=.agg #[.int .i64 (O.kOf xpl k (Lk.length+1)),.string ⟨#[]⟩,.string ⟨#[]⟩,.string xp,.slice ya' (Lk.length+1) yc',.slice za' (Lk.length+1) zc']:=by rw[e8,ea];rfl
    have hc:=hJ.c
    rw[hD] at hc
    simp only[cond_false] at hc
    have HC:=hid hc
    have q0:=cell_of hc 0;have q1:=cell_of hc 1;have q2:=cell_of hc 2;have q3:=cell_of hc 3;have q4:=cell_of hc 4;have q5:=cell_of hc 5;clear hc
    have qf:=z0e HC.out
    have HJ:=hid hJ
    have HEA:=hid ea
    rw[e9]
    clear hDk hwt hJ ea e8 e9
    go_wp2_with fail
    obtain⟨m1,m2⟩:=O.set6_at (.int .i64 (O.kOf xpl k (Lk.length+1))) (.string ⟨#[]⟩) (.string ⟨#[]⟩) (.string xp) (.slice ya' (Lk.length+1) yc') (.slice za' (Lk.length+1) zc') HC.out
    exact⟨by kernel_rfl,fun q=>GJ.store z1a HJ.out h10 m2 (by rw[HEA.out];exact m1)⟩
  case hend =>
   intro D xs w8 hD hJ
   obtain⟨ya',yc',za',zc',ea,hN8,_,_⟩:=hJ.l (hD 10 (by omega))
   have hc:=hJ.c
   rw[hD 14 (by omega),ea] at hc
   simp only[cond_true,tupAt] at hc
   have hc2:w8.heap[u]?=some (.cells #[.int .i64 (O.kOf xpl k (Lk.length+1)),.string ⟨#[]⟩,.string ⟨#[]⟩,.string xp,.slice ya' (Lk.length+1) yc',.slice za' (Lk.length+1) zc'] 102 (0,0)):=hc
   have hM1:=hJ.m
   have HT8:=hid (HT7.out.mod (S:=(·=u)) hM1 (show ¬ t=u by have:=HU.out;omega) (show ¬ sb=u by have:=HU.out;omega) (show ¬ sg=u by have:=HU.out;omega) (show ¬ kb=u by have:=HU.out;omega) (show ¬ km=u by have:=HU.out;omega))
   have HP8:=hid (HP7.out.mod hM1 ⟨HUD.out.2.2.2.1,HUD.out.1,HUD.out.2.1,HUD.out.2.2.2.2⟩)
   have HU8:=hid hc2
   have HM8:Hid (Mod (TOwn sg km) w w8):=hid (HM7.out.trans hM1 (fun i hi e=>by have:i=u:=e;have:=HU.out;omega))
   have HN9:=hid hN8
   have hns:¬ rb=sg/\¬ u=sg:=by have:=HU.out;have:=HP7.out.l;omega
   have HNS:=hid hns
   have c1:=cell_of HP8.out.c 1
   clear hD hJ ea hc hc2 hM1 hN8 hns
   dsimp only[List.take,z1s,List.drop]
   go_wp2_with fail
   refine z0f 6 (Turn 5 (SetJ w8 t sb sg kb km (l.set j ⟨true,(⟨1,c,v,⟨#[]⟩,⟨none,0,0⟩,⟨none,0,0⟩,false,false⟩:Nd),pj.gen+1⟩) (K.addL L rr).2 tk) (SetJ w8 t sb sg kb km ((l.set j ⟨true,(⟨1,c,v,⟨#[]⟩,⟨none,0,0⟩,⟨none,0,0⟩,false,false⟩:Nd),pj.gen+1⟩).set ir (⟨true,⟨(O.kOf xpl k (Lk.length+1)),⟨#[]⟩,⟨#[]⟩,xp,⟨ya',Lk.length+1,yc'⟩,⟨za',Lk.length+1,zc'⟩,xpl,xdi⟩,r.2⟩:Cel Nd)) (K.addL L rr).2 tk)) (by kernel_rfl) (by kernel_rfl) (by kernel_rfl) (Turn.start ⟨(Mod.refl (·=sg) w8).drew,HT8.out.keep (Below.refl _ _).drew⟩) ?_
   dsimp only[List.take]
   iterate 5
    refine Seq.calm (a':=?_) (by decide) ?_ ?_ ?_
    rotate_left
    ·intro w1 hw1
     have hM:Mod (·=sg) w8 w1:=hw1.elim SetJ.m SetJ.m
     have hr:=(hM.block rb (lt_of_block HP8.out.r) HNS.out.1).trans HP8.out.r
     have ho:=(hM.block u (lt_of_block HU8.out) HNS.out.2).trans HU8.out
     have n0:=cell_of hr 0
     have n1:=cell_of hr 1
     have o0:=cell_of ho 0
     have o1:=cell_of ho 1
     have o2:=cell_of ho 2
     have o3:=cell_of ho 3
     have o4:=cell_of ho 4
     have o5:=cell_of ho 5
     clear hM hr ho hw1
     go_wp2_with (fail)
     refine⟨?_,id,id⟩;exact rfl
    ·kernel_rfl
   refine Seq.turn (a':=?_) ?_ ?_ ?_
   rotate_left
   ·intro w1 hw1
    have HM:=hid hw1.m
    have HTT:=hid hw1.t
    clear hw1
    go_wp2_with (go_at_call 33;refine (pset_at r.1 r.2 ((O.kOf xpl k (Lk.length+1)):Nat) ⟨#[]⟩ ⟨#[]⟩ xp ya' za' (Lk.length+1) yc' (Lk.length+1) zc' w1 HTT.out HL7.out).mono ?_;rintro e w2 ⟨rfl,hT,hX⟩)
    refine⟨?_,HM.out.trans hX (fun _ _ h=>h),hT⟩
    exact rfl
   ·kernel_rfl
   iterate 0
    refine Seq.calm (a':=?_) (by decide) ?_ ?_ ?_
    rotate_left
    ·intro w1 hw1
     have hM:Mod (·=sg) w8 w1:=hw1.elim SetJ.m SetJ.m
     have hr:=(hM.block rb (lt_of_block HP8.out.r) HNS.out.1).trans HP8.out.r
     have ho:=(hM.block u (lt_of_block HU8.out) HNS.out.2).trans HU8.out
     have n0:=cell_of hr 0
     have n1:=cell_of hr 1
     have o0:=cell_of ho 0
     have o1:=cell_of ho 1
     have o2:=cell_of ho 2
     have o3:=cell_of ho 3
     have o4:=cell_of ho 4
     have o5:=cell_of ho 5
     clear hM hr ho hw1
     go_wp2_with (fail)
     refine⟨?_,id,id⟩;exact rfl
    ·kernel_rfl
   refine SeqI.nil ?_
   intro D w1 hD hI
   replace hI:=hI.done (hD 5 (by omega))
   clear hD
   dsimp only[List.drop]
   have HI:=hid hI
   clear hI
   go_wp2_with fail
   go_ret2
   have hI:=HI.out
   have hMt:Mod (TOwn sg km) w w1:=HM8.out.trans hI.m (fun _ _ h=>.inl h)
   have hN9:=HN9.out
   have hno:∀ k',k'=sg->NoRow w8 k':=fun k' e=>HT8.out.noRow k' (.inl e)
   have hN10:O.NodeIn w1 (O.kOf xpl k (Lk.length+1)) xp ya' (Lk.length+1) yc' za' (Lk.length+1) zc' (insK Lk (⟨s.at_,j,pj.gen+1⟩:Kd)):=⟨O.z0h hN9.b hI.m (fun k' hk hs=>own_not hN9.b (.inl rfl) hk (hno k' hs)),O.z0h hN9.z hI.m (fun k' hk hs=>own_not hN9.z (.inr rfl) hk (hno k' hs)),hN9.k1,hN9.k2,hN9.p,hN9.len,hN9.rise,hN9.ok⟩
   exact⟨rfl,⟨_,hI.t,Rel.set (x:=⟨(O.kOf xpl k (Lk.length+1)),⟨#[]⟩,⟨#[]⟩,xp,⟨ya',Lk.length+1,yc'⟩,⟨za',Lk.length+1,zc'⟩,xpl,xdi⟩) (q:=⟨.z0k (O.kOf xpl k (Lk.length+1)) xp (insK Lk (⟨s.at_,j,pj.gen+1⟩:Kd)),xpl,xdi⟩) (Rel.set (x:=(⟨1,c,v,⟨#[]⟩,⟨none,0,0⟩,⟨none,0,0⟩,false,false⟩:Nd)) (q:=⟨.leaf c v,false,false⟩) (HR.out.mod hMt HT.out.noRow) true (fun _=>⟨rfl,rfl,rfl,rfl,rfl,rfl,rfl,rfl⟩)) true (fun _=>⟨rfl,rfl,rfl,rfl,rfl,rfl,hN10,by rw[HN8.out];exact hmb⟩)⟩,hMt⟩
variable {ya za:Option Addr}
section
variable {w w':World} {t sb sg kb km:Nat} {l:List (Cel Nd)} {P:List (Cel PNd)} {L:List (RefK × Wd)} {tk:Int}
theorem node_mod {S:Nat->Prop} (h:O.NodeIn w k pt ya yn yc za zn zc Lk) (hM:Mod S w w') (hS:∀ k,S k->NoRow w k):O.NodeIn w' k pt ya yn yc za zn zc Lk :=
 ⟨O.z0h h.b hM (fun k' hk hs=>own_not h.b (.inl rfl) hk (hS k' hs)),O.z0h h.z hM (fun k' hk hs=>own_not h.z (.inr rfl) hk (hS k' hs)),h.k1,h.k2,h.p,h.len,h.rise,h.ok⟩
theorem z0s.noRow (h:z0s w t sb sg kb km P L tk):∀ k,TOwn sg km k->NoRow w k:=by
 obtain⟨l,h1,_⟩:=h
 exact h1.noRow
theorem z0s.lt (h:z0s w t sb sg kb km P L tk):t<w.heap.size/\sb<w.heap.size/\sg<w.heap.size/\kb<w.heap.size/\km<w.heap.size:=by
 obtain⟨l,h,_⟩:=h
 exact⟨lt_of_block h.ht,h.hs.blt,h.hs.glt,h.hk.lt.1,h.hk.lt.2⟩
theorem z0s.mod {S:Nat->Prop} (h:z0s w t sb sg kb km P L tk) (hM:Mod S w w') (hS:∀ k,S k->NoRow w k) (h1:¬ S t) (h2:¬ S sb) (h3:¬ S sg) (h4:¬ S kb) (h5:¬ S km):z0s w' t sb sg kb km P L tk:=by
 obtain⟨l,a,b⟩:=h
 exact⟨l,a.mod hM h1 h2 h3 h4 h5,b.mod hM hS⟩
theorem take_leaf (c v:ByteArray) (w:World) (h:z0s w t sb sg kb km P L tk) (hF:z2s P (j:Int)) (hj:P[j]?=some pj) (hjr:pj.room=true) (rr:RefK) (hr1:rr.1.1=j) (hr2:rr.1.2=pj.gen+1) :
 Calls Tryz.prog 34 #[.pointer (some ⟨t,0,none⟩),.agg #[.int .i64 1,.string c,.string v,.string ⟨#[]⟩,.slice none 0 0,.slice none 0 0],.bool false] w fun e w'=>e=.returned (.tuple #[.agg #[.int .i64 j,.int .u32 (pj.gen+1)],.int .i64 0])/\z0s w' t sb sg kb km (P.set j ⟨true,⟨.leaf c v,false,false⟩,pj.gen+1⟩) (K.addL L rr).2 tk/\Mod (TOwn sg km) w w':=by
 obtain⟨l,h1,h2⟩:=h
 obtain⟨cj,hcj,_,hcg,hcr⟩:=h2.cell hj
 have:=take_at 1 c v ⟨#[]⟩ none none 0 0 0 0 false w h1 (h2.first hF) hcj (hcr.trans hjr) rr hr1 (hr2.trans (by rw[hcg]))
 rw[hcg] at this
 refine this.mono ?_
 rintro e w' ⟨e1,hT,hM⟩
 exact⟨e1,⟨_,hT,Rel.set (q:=⟨.leaf c v,false,false⟩) (h2.mod hM h1.noRow) true (fun _=>⟨rfl,rfl,rfl,rfl,rfl,rfl,rfl,rfl⟩)⟩,hM⟩
theorem z0s.z0k {s g:Int} {i k:Nat} {pt:ByteArray} {Lk:List Kd} {pl di:Bool} (h:z0s w t sb sg kb km P L tk) (hq:z0l P s g i ⟨.z0k k pt Lk,pl,di⟩) :
 ∃ l ya yc za zc,TreeAt w t sb sg kb km l L tk/\Rel w l P/\S.Live l s g i ⟨true,⟨k,⟨#[]⟩,⟨#[]⟩,pt,⟨ya,Lk.length,yc⟩,⟨za,Lk.length,zc⟩,pl,di⟩,g⟩/\O.NodeIn w k pt ya Lk.length yc za Lk.length zc Lk/\O.MayB k Lk.length pt:=by
 obtain⟨l,h1,h2⟩:=h
 obtain⟨⟨xis,⟨kn,cd,vl,xp,⟨ya,yn,yc⟩,⟨za,zn,zc⟩,xpl,xdi⟩,xgn⟩,hLx,hplx,hdix,hNx⟩:=h2.live hq
 obtain⟨rfl,rfl,rfl,rfl,hNI,hMB⟩:=hNx
 simp only at hplx hdix hNI
 obtain rfl:zn=Lk.length:=O.z1u hNI.z
 obtain rfl:yn=Lk.length:=O.z1u hNI.b
 obtain rfl:xis=true:=hLx.2.2.1
 obtain rfl:xgn=g:=hLx.2.2.2
 subst hplx hdix
 exact⟨l,ya,yc,za,zc,h1,h2,hLx,hNI,hMB⟩
theorem z0s.leaf {s g:Int} {i:Nat} {c v:ByteArray} {pl di:Bool} (h:z0s w t sb sg kb km P L tk) (hq:z0l P s g i ⟨.leaf c v,pl,di⟩) :
 ∃ l,TreeAt w t sb sg kb km l L tk/\Rel w l P/\S.Live l s g i ⟨true,⟨1,c,v,⟨#[]⟩,⟨none,0,0⟩,⟨none,0,0⟩,pl,di⟩,g⟩:=by
 obtain⟨l,h1,h2⟩:=h
 obtain⟨⟨xis,⟨kn,cd,vl,xp,⟨ya,yn,yc⟩,⟨za,zn,zc⟩,xpl,xdi⟩,xgn⟩,hLx,hplx,hdix,hNx⟩:=h2.live hq
 obtain⟨e1,e2,e3,e4,e5,e6⟩:=hNx
 simp only at hplx hdix e1 e2 e3 e4 e5 e6
 cases e5
 cases e6
 obtain rfl:xis=true:=hLx.2.2.1
 obtain rfl:xgn=g:=hLx.2.2.2
 subst hplx hdix e1 e2 e3 e4
 exact⟨l,h1,h2,hLx⟩
theorem kid_P {jj:Nat} {kk:Kd} (us ug fs fg ts tg:Int) (w:World) (h:z0s w t sb sg kb km P L tk) (hr:RoomsAt w) (hu:z0l P us ug i ⟨.z0k k pt Lk,pl,di⟩)
 (hj:Lk[jj]?=some kk) (hf:z0p Lk kk.b=some kk) (hs:kk.s=fs) (hg:kk.g=fg) (hn:∀ i k,i<jj->Lk[i]?=some k->¬ (k.s=fs/\k.g=fg)) (hok:(⟨kk.b,ts,tg⟩:Kd).ok) :
 Calls Tryz.prog 38 #[.pointer (some ⟨t,0,none⟩),.agg #[.int .i64 us,.int .u32 ug],.agg #[.int .i64 fs,.int .u32 fg],.agg #[.int .i64 ts,.int .u32 tg]] w fun e w'=>e=.returned (.tuple #[])/\z0s w' t sb sg kb km (P.set i ⟨true,⟨.z0k k pt (z1t Lk kk.b ts tg),pl,di⟩,ug⟩) L tk/\Mod (·=sg) w w':=by
 obtain⟨l,ya,yc,za,zc,h1,h2,hL,hN,hB⟩:=h.z0k hu
 refine (kid_at us ug fs fg ts tg w h1 hr hL hN hB hj hf hs hg hn hok).mono ?_
 rintro e w' ⟨ya',yc',za',zc',e1,hT,hN',hM⟩
 exact⟨e1,⟨_,hT,Rel.set (q:=⟨.z0k k pt (z1t Lk kk.b ts tg),pl,di⟩) (h2.mod hM (fun k' e=>h1.noRow k' (.inl e))) true (fun _=>⟨rfl,rfl,rfl,rfl,rfl,rfl,hN',by rw[O.z2f];exact hB⟩)⟩,hM⟩
theorem set_inner {k':Nat} {pt':ByteArray} {Lk':List Kd} {us ug:Int} (w:World) (h:z0s w t sb sg kb km P L tk) {q:PN} (hu:z0l P us ug i ⟨q,pl,di⟩) (hN:O.NodeIn w k' pt' ya yn yc za zn zc Lk') (hB:O.MayB k' Lk'.length pt') :
 Calls Tryz.prog 33 #[.pointer (some ⟨t,0,none⟩),.agg #[.int .i64 us,.int .u32 ug],.agg #[.int .i64 k',.string ⟨#[]⟩,.string ⟨#[]⟩,.string pt',.slice ya yn yc,.slice za zn zc]] w fun e w'=>e=.returned (.tuple #[])/\z0s w' t sb sg kb km (P.set i ⟨true,⟨.z0k k' pt' Lk',pl,di⟩,ug⟩) L tk/\Mod (·=sg) w w':=by
 obtain⟨l,h1,h2⟩:=h
 obtain⟨⟨xis,x,xgn⟩,hLx,hplx,hdix,hNx⟩:=h2.live hu
 obtain rfl:xis=true:=hLx.2.2.1
 obtain rfl:xgn=ug:=hLx.2.2.2
 simp only at hplx hdix
 refine (pset_at us xgn k' ⟨#[]⟩ ⟨#[]⟩ pt' ya za yn yc zn zc w h1 hLx).mono ?_
 rintro e w' ⟨e1,hT,hM⟩
 exact⟨e1,⟨_,hT,Rel.set (q:=⟨.z0k k' pt' Lk',pl,di⟩) (h2.mod hM (fun k' e=>h1.noRow k' (.inl e))) true (fun _=>⟨hplx.symm,hdix.symm,rfl,rfl,rfl,rfl,node_mod hN hM (fun k' e=>h1.noRow k' (.inl e)),hB⟩)⟩,hM⟩
end
end Go.Proofs.YtgdmfledhhoedaaGreatDoor.T
namespace Go.Burg
open Go Go.RowKit
def dieP (P:List (Cel PNd)) (r:Int × Int):List (Cel PNd):=match P[r.1.toNat]? with
 | some p=>P.set r.1.toNat ⟨p.is,⟨p.x.n,p.x.planted,true⟩,p.gen⟩
 | none=>P
def dieAll (P:List (Cel PNd)) (W:List (Int × Int)):List (Cel PNd):=W.foldl dieP P
variable {P:List (Cel PNd)}
theorem dieAll_take {W:List (Int × Int)} {k:Nat} {r:Int × Int} (h:W[k]?=some r):dieAll P (W.take (k+1))=dieP (dieAll P (W.take k)) r:=by
 unfold dieAll
 rw[List.take_add_one,h]
 simp[List.foldl_append]
theorem dieP_live {s g:Int} {i:Nat} {q:PNd} (h:z0l P s g i q):dieP P (s,g)=P.set i ⟨true,⟨q.n,q.planted,true⟩,g⟩:=by
 obtain⟨rfl,p,h1,h2,h3,rfl⟩:=h
 have e:((i:Int)).toNat=i:=by simp
 unfold dieP
 simp only[e,h1,h2,h3]
theorem z0l.dieP {P:List (Cel PNd)} {s g:Int} {i:Nat} {q:PNd} (h:z0l P s g i q) (r:Int × Int):∃ di,z0l (dieP P r) s g i ⟨q.n,q.planted,di⟩:=by
 obtain⟨rfl,p,h1,h2,h3,rfl⟩:=h
 unfold Go.Burg.dieP
 by_cases e:r.1.toNat=i
 ·rw[e,h1]
  have hl:i<P.length:=(List.getElem?_eq_some_iff.1 h1).1
  exact⟨true,rfl,_,List.getElem?_set_self hl,h2,h3,rfl⟩
 ·cases hp:P[r.1.toNat]? with
  | none=>exact⟨p.x.died,rfl,p,h1,h2,h3,rfl⟩
  | some p'=>exact⟨p.x.died,rfl,p,by simp only;rw[List.getElem?_set_ne e];exact h1,h2,h3,rfl⟩
theorem z0l.dieAll {P:List (Cel PNd)} {s g:Int} {i:Nat} {q:PNd} (h:z0l P s g i q) (W:List (Int × Int)):∃ di,z0l (dieAll P W) s g i ⟨q.n,q.planted,di⟩:=by
 induction W generalizing P q with
 | nil=>exact⟨q.died,h⟩
 | cons r W ih =>
  obtain⟨di,h'⟩:=h.dieP r
  have:=ih h'
  exact this
end Go.Burg
namespace Go.Proofs.YtgdmfledhhoedaaGreatDoor.T
set_option maxRecDepth 8000
open Go.ChangeShapes Go.WideShapes Go.ChangeAt Go.RowKit Go.Burg
open Go.Burg.Lk
theorem node_is_mod {S:Nat->Prop} {w w':World} {x x':Nd} {n:PN} (h:NdIs w x n) (hM:Mod S w w') (hS:∀ k,S k->NoRow w k) (e:x'={ x with died:=x'.died }:=by rfl):NdIs w' x' n:=by
 have:=h.mod hM hS
 rw[e]
 cases n<;>exact this
set_option maxRecDepth 20000 in
set_option maxHeartbeats 8000000 in
theorem die_at {t sb sg kb km g n cap:Nat} {P:List (Cel PNd)} {L:List (RefK × Wd)} {tk:Int} {W0:List (Int × Int)} (w:World) (h:z0s w t sb sg kb km P L tk) (hn:W0.length=n) (h100:n<=100) (hl:∀ r,r∈W0->∃ i q,z0l P r.1 r.2 i q)
 (hc:∀ k r,W0[k]?=some r->w.cell? ⟨g,k * 2,none⟩=some (.int .i64 r.1)/\w.cell? ⟨g,k * 2+1,none⟩=some (.int .u32 r.2)) (hg:g<w.heap.size) (hgs:g≠sg) :
 Calls Tryz.prog 39 #[.pointer (some ⟨t,0,none⟩),.slice (some ⟨g,0,none⟩) n cap] w fun e w'=>e=.returned (.slice (some ⟨g,0,none⟩) n cap)/\z0s w' t sb sg kb km (dieAll P W0) L tk/\Mod (·=sg) w w':=by
 subst hn
 have HH:=hid h
 have HC:=hid hc
 have HG:=hid (And.intro hg hgs)
 have HLV:=hid hl
 have HLT:=hid h.lt
 clear h hc hg hgs hl
 go_enter Tryz.func39,Tryz.ntmps39
 go_wp2_with fail
 go_loopw [11] (fun iv wr=>∃ k:Nat,k<=W0.length/\iv=.int .i64 k/\z0s wr t sb sg kb km (dieAll P (W0.take k)) L tk/\Mod (·=sg) w wr) (fun iv _=>W0.length - (intOf iv).toNat)
 case atStart=>exact⟨0,Nat.zero_le _,rfl,HH.out,Mod.refl _ _⟩
 case round =>
  obtain⟨k,hk,rfl,hT,hM0⟩:=hrel
  by_cases hlt:k<W0.length
  ·obtain⟨⟨slot,gen⟩,hr⟩:∃ r,W0[k]?=some r:=⟨_,List.getElem?_eq_getElem hlt⟩
   obtain⟨i,q0,hq0⟩:=HLV.out _ (List.mem_of_getElem? hr)
   obtain⟨di',hq⟩:=hq0.dieAll (W0.take k)
   have hst:=(dieAll_take (P:=P) hr).trans (dieP_live hq)
   have HST:=hid hst
   obtain⟨l,hTA,hRE⟩:=hT
   obtain⟨⟨xis,⟨kn,cd,vl,pt,⟨ya,yn,yc⟩,⟨za,zn,zc⟩,pl,di⟩,gn⟩,hL,hpl,hdi,hNd⟩:=hRE.live hq
   obtain rfl:xis=true:=hL.2.2.1
   obtain rfl:gen=gn:=hL.2.2.2.symm
   simp only at hpl hdi hNd
   have HND:=hid (And.intro hpl hNd)
   have HRE:=hid hRE
   obtain⟨r0,r1⟩:=HC.out k _ hr
   have g0:=(World.cell?_of_block (w:=w) (hM0.block g HG.out.1 HG.out.2)).trans r0
   have g1:=(World.cell?_of_block (w:=w) (hM0.block g HG.out.1 HG.out.2)).trans r1
   have HM0:=hid hM0
   have HWS:Hid (w.heap.size<=wr.heap.size):=hid hM0.size
   have hd:decide (W0.length<=k)=false:=by simp;exact hlt
   have HTA:=hid hTA
   have HL:=hid hL
   clear hr hq0 hq hst hL hpl hdi hNd hRE r0 r1 hM0 hTA
   have hN:=z0a wr (.cells #[.int .i64 slot,.int .u32 gen] 36 (0,0))
   have hA:=HTA.out.alloc (.cells #[.int .i64 slot,.int .u32 gen] 36 (0,0))
   have hB:Below wr.heap.size wr (wr.alloc (.cells #[.int .i64 slot,.int .u32 gen] 36 (0,0))):=(Below.refl _ _).alloc (Nat.le_refl _) _
   generalize hW:wr.alloc (.cells #[.int .i64 slot,.int .u32 gen] 36 (0,0))=W at *
   generalize hv:wr.heap.size=v at *
   have HW:=hid hW
   have HV:=hid hv
   have HA:=hid hA
   have HN:=hid hN
   have HB:=hid hB
   have HT:Hid (∀ w1,Below W.heap.size W w1->Calls Tryz.prog 67 #[.pointer (some ⟨sb,0,none⟩),.agg #[.int .i64 slot,.int .u32 gen]] w1 fun e w'=>e=.returned (.tuple #[.agg #[.int .i64 kn,.string cd,.string vl,.string pt,.slice ya yn yc,.slice za zn zc,.bool pl,.bool di],.bool true])/\Below w1.heap.size w1 w'):=hid (fun (w1:World) (hw1:Below W.heap.size W w1)=>S.get_live slot gen w1 (HA.out.keep hw1).hs HL.out)
   have l0:=lt_of_block HN.out
   have l1:=lt_of_block HA.out.ht
   clear hW hA hN hB hv
   go_wp2_with fail
   rw[HW.out,HV.out]
   have c0:=cell_of HA.out.ht 0
   have n0:=cell_of HN.out 0
   have n1:=cell_of HN.out 1
   go_region_with (go_at_call 67;refine (HT.out _ (by (repeat (first|exact Below.refl _ _|assumption|with_reducible refine Below.drew ?_|with_reducible refine below_drewN ?_|with_reducible refine Below.setCell ?_ (by first|(simp;done)|(simp;omega)) _|with_reducible refine Below.alloc ?_ (by first|exact Nat.le_refl _|(simp;done)|(simp;omega)) _)))).mono ?_;rintro e w2 ⟨rfl,hw2⟩;(try (have z:=(hw2.block W.heap.size (by simp)).trans (z0a W (.cells #[.int .i64 0,.string ⟨#[]⟩,.string ⟨#[]⟩,.string ⟨#[]⟩,.slice none 0 0,.slice none 0 0,.bool false,.bool false] 104 (0,0)));have z0:=cell_of z 0;have z1:=cell_of z 1;have z2:=cell_of z 2;have z3:=cell_of z 3;have z4:=cell_of z 4;have z5:=cell_of z 5;have z6:=cell_of z 6;have z7:=cell_of z 7;have zf:=z0e z));have HW2:Hid (Below W.heap.size W w2):=hid (z0d (by (repeat (first|exact Below.refl _ _|assumption|with_reducible refine Below.drew ?_|with_reducible refine below_drewN ?_|with_reducible refine Below.setCell ?_ (by first|(simp;done)|(simp;omega)) _|with_reducible refine Below.alloc ?_ (by first|exact Nat.le_refl _|(simp;done)|(simp;omega)) _))) hw2 (by first|exact Nat.le_refl _|(simp;done)|(simp;omega)));clear hw2)
   all_goals first|(have hmid:=nmidB (kn:=kn) (cd:=cd) (vl:=vl) (pt:=pt) (ya:=ya) (za:=za) (yn:=yn) (yc:=yc) (zn:=zn) (zc:=zc) (pl:=pl) (di:=di) HW2.out z;generalize hE:((((((((w2.setCell ⟨W.heap.size,0,none⟩ (.int .i64 kn)).setCell ⟨W.heap.size,1,none⟩ (.string cd)).setCell ⟨W.heap.size,2,none⟩ (.string vl)).setCell ⟨W.heap.size,3,none⟩ (.string pt)).setCell ⟨W.heap.size,4,none⟩ (.slice ya yn yc)).setCell ⟨W.heap.size,5,none⟩ (.slice za zn zc)).setCell ⟨W.heap.size,6,none⟩ (.bool pl)).setCell ⟨W.heap.size,7,none⟩ (.bool di))=w3 at hmid ⊢;generalize hEu:W.heap.size=u at hmid ⊢)|(have hmid:=nmidA (o:=(.cells #[.int .i64 kn,.string cd,.string vl,.string pt,.slice ya yn yc,.slice za zn zc,.bool pl,.bool di] 104 (0,0))) HW2.out;generalize hE:w2.alloc (.cells #[.int .i64 kn,.string cd,.string vl,.string pt,.slice ya yn yc,.slice za zn zc,.bool pl,.bool di] 104 (0,0))=w3 at hmid ⊢;generalize hEu:w2.heap.size=u at hmid ⊢)
   all_goals
    try clear z z0 z1 z2 z3 z4 z5 z6 z7 zf
    clear hE hEu HT c0 n0 n1 HW2
    obtain⟨hb3,hu,ho⟩:=hmid
    have hn:=z0b HN.out hb3 l0
    have ht:=z0b HA.out.ht hb3 l1
    have of:=z0e ho
    have hA3:=HA.out.keep hb3
    have o7:=cell_of ho 7
    have hs7:(w3.setCell ⟨u,7,none⟩ (.bool true)).heap[u]?=some (.cells #[.int .i64 kn,.string cd,.string vl,.string pt,.slice ya yn yc,.slice za zn zc,.bool pl,.bool true] 104 (0,0)):=z0y ho rfl
    have hm7:Mod (·=u) w3 (w3.setCell ⟨u,7,none⟩ (.bool true)):=Mod.setCell (S:=(·=u)) (p:=⟨u,7,none⟩) (Mod.refl _ _) (.inl rfl) _
    have HS7:=hid (And.intro hs7 hm7)
    have HN3:=hid hn
    have HT3:=hid ht
    have HA3:=hid hA3
    have HB3:=hid hb3
    have hWs:=HB.out.size
    clear hn ht ho hb3 hA3 HN HA hs7 hm7
    go_wp2_with fail
    have hlt:=HLT.out
    obtain⟨hO4,hM4⟩:=HS7.out
    generalize w3.setCell ⟨u,7,none⟩ (.bool true)=w4 at *
    have hws:=HWS.out
    have hts:t≠sg:=HA3.out.ne.1
    have hns:v≠sg:=by omega
    have hus:u≠sg:=by omega
    have HT4:=hid ((hM4.block t (lt_of_block HT3.out) (show ¬ t=u by omega)).trans HT3.out)
    have HN4:=hid ((hM4.block v (lt_of_block HN3.out) (show ¬ v=u by omega)).trans HN3.out)
    have HO4:=hid hO4
    have HA4:=hid (HA3.out.mod hM4 (show ¬ t=u by omega) (show ¬ sb=u by omega) (show ¬ sg=u by omega) (show ¬ kb=u by omega) (show ¬ km=u by omega))
    have HM4:Hid (Mod (·=sg) wr w4):=hid ((Mod.z0j (S:=(·=sg)) (HV.out ▸ (HB.out.trans (HB3.out.mono (by have:=HV.out;omega))))).trans hM4 (fun i hi e=>by have:i=u:=e;have:=HV.out;omega))
    clear hO4 hM4 HS7 of o7
    refine z0f 7 (Turn 6 (fun w1=>Mod (·=sg) w4 w1/\SlabN 193 150 w1 sb sg l) (fun w1=>Mod (·=sg) w4 w1/\SlabN 193 150 w1 sb sg (l.set i ⟨true,(⟨kn,cd,vl,pt,⟨ya,yn,yc⟩,⟨za,zn,zc⟩,pl,true⟩:Nd),gen⟩))) (by kernel_rfl) (by kernel_rfl) (by kernel_rfl) (Turn.start ⟨(Mod.refl (·=sg) w4).drew,HA4.out.hs.same rfl rfl⟩) ?_
    dsimp only[List.take]
    iterate 6
     refine Seq.calm (a':=?_) (by decide) ?_ ?_ ?_
     rotate_left
     ·intro w1 hw1
      have hM:Mod (·=sg) w4 w1:=hw1.elim (·.1) (·.1)
      have ht:=(hM.block t (lt_of_block HT4.out) hts).trans HT4.out
      have hn:=(hM.block v (lt_of_block HN4.out) hns).trans HN4.out
      have ho:=(hM.block u (lt_of_block HO4.out) hus).trans HO4.out
      have c0:=cell_of ht 0
      have n0:=cell_of hn 0
      have n1:=cell_of hn 1
      have o0:=cell_of ho 0
      have o1:=cell_of ho 1
      have o2:=cell_of ho 2
      have o3:=cell_of ho 3
      have o4:=cell_of ho 4
      have o5:=cell_of ho 5
      have o6:=cell_of ho 6
      have o7:=cell_of ho 7
      clear hM ht hn ho hw1
      go_wp2_with (fail)
      refine⟨?_,id,id⟩;exact rfl
     ·kernel_rfl
    refine Seq.turn (a':=?_) ?_ ?_ ?_
    rotate_left
    ·intro w1 hw1
     have HM:=hid hw1.1
     have HS1:=hid hw1.2
     clear hw1
     go_wp2_with (go_at_call 68;refine (S.set_live slot gen _ HS1.out HL.out).mono ?_;rintro e w2 ⟨rfl,hS,hX⟩)
     refine⟨?_,HM.out.trans hX (fun _ _ h=>h),hS⟩
     exact rfl
    ·kernel_rfl
    iterate 0
     refine Seq.calm (a':=?_) (by decide) ?_ ?_ ?_
     rotate_left
     ·intro w1 hw1
      have hM:Mod (·=sg) w4 w1:=hw1.elim (·.1) (·.1)
      have ht:=(hM.block t (lt_of_block HT4.out) hts).trans HT4.out
      have hn:=(hM.block v (lt_of_block HN4.out) hns).trans HN4.out
      have ho:=(hM.block u (lt_of_block HO4.out) hus).trans HO4.out
      have c0:=cell_of ht 0
      have n0:=cell_of hn 0
      have n1:=cell_of hn 1
      have o0:=cell_of ho 0
      have o1:=cell_of ho 1
      have o2:=cell_of ho 2
      have o3:=cell_of ho 3
      have o4:=cell_of ho 4
      have o5:=cell_of ho 5
      have o6:=cell_of ho 6
      have o7:=cell_of ho 7
      clear hM ht hn ho hw1
      go_wp2_with (fail)
      refine⟨?_,id,id⟩;exact rfl
     ·kernel_rfl
    refine SeqI.nil ?_
    intro D w1 hD hI
    replace hI:=hI.done (hD 6 (by omega))
    clear hD
    dsimp only[List.drop]
    obtain⟨hM1,hS1⟩:=hI
    have HE:=hid (And.intro hM1 hS1)
    clear hM1 hS1
    go_wp2_with fail
    obtain⟨hM1,hS1⟩:=HE.out
    have hne:=HA4.out.ne
    have hMt:=HM4.out.trans hM1 (fun _ _ h=>h)
    refine⟨⟨k+1,by omega,by go_num,?_,HM0.out.trans hMt (fun _ _ h=>h)⟩,by simp[intOf];omega⟩
    rw[HST.out]
    exact⟨_,⟨(hM1.block t (lt_of_block HT4.out) hts).trans HT4.out,hS1,HA4.out.hk.mod hM1 hne.2.2.2.2.1 (fun e=>hne.2.2.2.2.2.2 e.symm)⟩,Rel.set (x:=(⟨kn,cd,vl,pt,⟨ya,yn,yc⟩,⟨za,zn,zc⟩,pl,true⟩:Nd)) (q:=⟨q0.n,q0.planted,true⟩) (HRE.out.mod hMt (fun k' e=>HTA.out.noRow k' (.inl e))) true (fun _=>⟨HND.out.1.symm,rfl,node_is_mod HND.out.2 hMt (fun k' e=>HTA.out.noRow k' (.inl e))⟩)⟩
  ·obtain rfl:k=W0.length:=by omega
   have hd:decide (W0.length<=W0.length)=true:=by simp
   have HE:=hid (And.intro hT hM0)
   clear hT hM0
   go_wp2_with fail
   go_ret
   obtain⟨hT,hM0⟩:=HE.out
   rw[List.take_length] at hT
   exact⟨rfl,hT,hM0⟩
end Go.Proofs.YtgdmfledhhoedaaGreatDoor.T
namespace Go.Burg
open Go Go.RowKit
theorem byt_rst (c:ByteArray) (d:Nat):byt (rst c d)=(byt c).drop d:=by
 unfold byt rst
 have e1:(c.extract d c.size).data=c.data.extract d c.size:=by simp
 have e2:c.size=c.data.toList.length:=rfl
 rw[e1,Array.toList_extract,List.extract_eq_take_drop,e2]
 exact List.take_of_length_le (by rw[List.length_drop];exact Nat.le_refl _)
theorem comL_full:∀ {l m:List UInt8},comL l m=m.length->m <+: l
 | l,[],_=>List.nil_prefix
 | [],y :: m,h=>by simp[comL] at h
 | x :: l,y :: m,h=>by
  unfold comL at h
  split at h
  ·rename_i e
   subst e
   exact List.cons_prefix_cons.2 ⟨rfl,comL_full (by simpa using h)⟩
  ·simp at h
theorem encL_ne (K:List UInt8):encL K≠[]:=by cases K<;>unfold encL<;>(try split)<;>simp
theorem encL_prefix:∀ {K K':List UInt8},encL K <+: encL K'->K=K'
 | [],[],_=>rfl
 | [],x :: K',h=>by
  rw[encL_nil] at h
  by_cases hx:x=0
  ·subst hx
   rw[encL_zero] at h
   simp[List.cons_prefix_cons] at h
  ·rw[encL_cons _ hx,List.cons_prefix_cons] at h
   exact absurd h.1.symm hx
 | x :: K,[],h=>by
  rw[encL_nil] at h
  by_cases hx:x=0
  ·subst hx
   rw[encL_zero] at h
   simp[List.cons_prefix_cons] at h
  ·rw[encL_cons _ hx,List.cons_prefix_cons] at h
   exact absurd h.1 hx
 | x :: K,y :: K',h=>by
  by_cases hx:x=0
  ·subst hx
   rw[encL_zero] at h
   by_cases hy:y=0
   ·subst hy
    rw[encL_zero] at h
    simp only[List.cons_prefix_cons,true_and] at h
    rw[encL_prefix h]
   ·rw[encL_cons _ hy,List.cons_prefix_cons] at h
    exact absurd h.1.symm hy
  ·rw[encL_cons _ hx] at h
   by_cases hy:y=0
   ·subst hy
    rw[encL_zero,List.cons_prefix_cons] at h
    exact absurd h.1 hx
   ·rw[encL_cons _ hy,List.cons_prefix_cons] at h
    obtain⟨rfl,h⟩:=h
    rw[encL_prefix h]
theorem z2l.prefix {c c':ByteArray} (h:z2l c) (h':z2l c') (hp:byt c <+: byt c'):byt c=byt c':=by
 obtain⟨K,e,_⟩:=h
 obtain⟨K',e',_⟩:=h'
 rw[e,e'] at hp ⊢
 rw[encL_prefix hp]
abbrev Ents:=List (ByteArray × ByteArray)
def Kd.byte (k:Kd):UInt8:=UInt8.ofNat k.b.toNat
inductive Sub (P:List (Cel PNd)):Nat->Int->Bool->List UInt8->(Nat->Prop)->Ents->Prop
 | leaf {i:Nat} {g:Int} {c v:ByteArray} {pre:List UInt8} (h:z0l P i g i ⟨.leaf c v,false,false⟩) (hp:pre <+: byt c) (hc:z2l c):Sub P i g false pre (·=i) [(c,v)]
 | node {i:Nat} {g:Int} {k:Nat} {pt:ByteArray} {L:List Kd} {pl:Bool} {pre:List UInt8} {ki:Nat->Nat} {Ss:Nat->Nat->Prop} {Es:Nat->Ents} (h:z0l P i g i ⟨.z0k k pt L,pl,false⟩)
  (hk:∀ j kd,L[j]?=some kd->kd.s=(ki j:Int)) (hsub:∀ j kd,L[j]?=some kd->Sub P (ki j) kd.g false (pre++byt pt++[kd.byte]) (Ss j) (Es j))
  (d1:∀ j x,j<L.length->Ss j x->x≠i) (d2:∀ j j' x,j<L.length->j'<L.length->Ss j x->Ss j' x->j=j')
  (hr:Rise L) (hok:∀ kd∈L,kd.ok) (hl:L.length<=256) (hn:pl=false->2<=L.length/\k=kindOf L.length/\pt.size<=34) (ha:pl=true->k=5/\pt=⟨#[]⟩) :
  Sub P i g pl pre (fun x=>x=i\/∃ j,j<L.length/\Ss j x) ((List.range L.length).flatMap Es)
section
variable {P P':List (Cel PNd)} {i:Nat} {g:Int} {pl:Bool} {pre:List UInt8} {S:Nat->Prop} {E:Ents}
theorem z0l.same {s g:Int} {i:Nat} {q:PNd} (h:z0l P s g i q) (e:P'[i]?=P[i]?):z0l P' s g i q:=by
 obtain⟨a,p,b,c⟩:=h
 exact⟨a,p,e.trans b,c⟩
theorem Sub.frame (h:Sub P i g pl pre S E) (hf:∀ x,S x->P'[x]?=P[x]?):Sub P' i g pl pre S E:=by
 induction h with
 | leaf h hp hc=>exact .leaf (h.same (hf _ rfl)) hp hc
 | @node i g k pt L pl pre ki Ss Es h hk hsub d1 d2 hr hok hl hn ha ih =>
  exact .node (h.same (hf _ (.inl rfl))) hk (fun j kd hj=>ih j kd hj (fun x hx=>hf x (.inr ⟨j,(List.getElem?_eq_some_iff.1 hj).1,hx⟩))) d1 d2 hr hok hl hn ha
theorem Sub.mem (h:Sub P i g pl pre S E):∀ e∈E,pre <+: byt e.1/\z2l e.1:=by
 induction h with
 | leaf h hp hc=>intro e he;simp at he;subst he;exact⟨hp,hc⟩
 | @node i g k pt L pl pre ki Ss Es h hk hsub d1 d2 hr hok hl hn ha ih =>
  intro e he
  obtain⟨j,hj,he⟩:=List.mem_flatMap.1 he
  have hj':j<L.length:=List.mem_range.1 hj
  obtain⟨h1,h2⟩:=ih j _ (List.getElem?_eq_getElem hj') e he
  exact⟨(List.prefix_append _ _).trans ((List.prefix_append _ _).trans h1),h2⟩
theorem Sub.ne (h:Sub P i g pl pre S E) (hp:pl=false):E≠[]:=by
 induction h with
 | leaf=>simp
 | @node i g k pt L pl pre ki Ss Es h hk hsub d1 d2 hr hok hl hn ha ih =>
  have h2:=(hn hp).1
  have h0:0<L.length:=by omega
  have:=ih 0 _ (List.getElem?_eq_getElem h0) rfl
  intro e
  exact this (List.flatMap_eq_nil_iff.1 e 0 (List.mem_range.2 h0))
theorem Sub.self (h:Sub P i g pl pre S E):S i:=by
 cases h with
 | leaf=>rfl
 | node=>exact .inl rfl
theorem Sub.live (h:Sub P i g pl pre S E) {x:Nat} (hx:S x):∃ gx q,z0l P x gx x q:=by
 induction h with
 | leaf h=>obtain rfl:=hx;exact⟨_,_,h⟩
 | @node i g k pt L pl pre ki Ss Es h hk hsub d1 d2 hr hok hl hn ha ih =>
  rcases hx with rfl|⟨j,hj,hx⟩
  ·exact⟨_,_,h⟩
  ·exact ih j _ (List.getElem?_eq_getElem hj) hx
end
variable {L:List Kd}
theorem next_byte {P:List (Cel PNd)} {k:Nat} {pt:ByteArray} {pl:Bool} {pre:List UInt8} {ki:Nat->Nat} {Ss:Nat->Nat->Prop} {Es:Nat->Ents}
 (hsub:∀ j kd,L[j]?=some kd->Sub P (ki j) kd.g false (pre++byt pt++[kd.byte]) (Ss j) (Es j)) (hn:pl=false->2<=L.length/\k=kindOf L.length/\pt.size<=34) (ha:pl=true->k=5/\pt=⟨#[]⟩) (hpl:pl=true->pre=[])
 {c:ByteArray} (hc:z2l c) (hp:pre <+: byt c) (hcom:com (rst c pre.length) pt=pt.size):∃ x,(byt (rst c pre.length))[pt.size]?=some x/\pre++byt pt++[x] <+: byt c:=by
 have h1:byt pt <+: (byt c).drop pre.length:=by
  rw[<- byt_rst]
  exact comL_full (by rw[z1b];exact hcom)
 obtain⟨r,hr⟩:=hp
 have h2:(byt c).drop pre.length=r:=by rw[<- hr];simp
 rw[h2] at h1
 obtain⟨r2,hr2⟩:=h1
 rw[byt_rst,h2,<- hr2]
 cases r2 with
 | cons x r2 =>
  refine⟨x,?_,r2,?_⟩
  ·rw[List.getElem?_append_right (by rw[z1b];exact Nat.le_refl _),z1b]
   simp
  ·rw[<- hr,<- hr2];simp
 | nil =>
  exfalso
  have hall:byt c=pre++byt pt:=by rw[<- hr,<- hr2];simp
  cases hpe:pl with
  | true =>
   obtain⟨K,e,_⟩:=hc
   rw[hall,hpl hpe,(ha hpe).2] at e
   exact encL_ne K (by simpa[byt] using e.symm)
  | false =>
   have hL:=(hn hpe).1
   have h0:0<L.length:=by omega
   have hs:=hsub 0 _ (List.getElem?_eq_getElem h0)
   obtain⟨e,he⟩:=List.exists_mem_of_ne_nil _ (hs.ne rfl)
   obtain⟨m1,m2⟩:=hs.mem e he
   have hpre:byt c <+: byt e.1:=by rw[hall];exact (List.prefix_append _ _).trans m1
   have:=hc.prefix m2 hpre
   have h3:=m1.length_le
   rw[<- this,hall] at h3
   simp at h3
   omega
theorem findK_at {y:Int} {kk:Kd} (h:z0p L y=some kk):kk.b=y/\∃ j:Nat,L[j]?=some kk:=by
 unfold z0p at h
 have h1:=List.find?_some h
 have h2:=List.mem_of_find?_eq_some h
 obtain⟨j,hj,e⟩:=List.getElem_of_mem h2
 exact⟨by simpa using h1,j,by rw[List.getElem?_eq_getElem hj,e]⟩
theorem kd_byte {kd:Kd} {x:UInt8} (h:kd.b=(x.toNat:Int)):kd.byte=x:=by unfold Kd.byte;rw[h];simp
theorem flat_split {α:Type} (Es:Nat->List α) {j n:Nat} (hj:j<n):(List.range n).flatMap Es=(List.range j).flatMap Es++(Es j++(List.range' (j+1) (n - j - 1)).flatMap Es):=by
 have e:List.range n=List.range j++(j :: List.range' (j+1) (n - j - 1)):=by
  rw[List.range_eq_range',List.range_eq_range']
  have:n=j+(1+(n - j - 1)):=by omega
  conv=>lhs;rw[this]
  rw[<- List.range'_append_1]
  congr 1
  simp
  rw[Nat.add_comm,List.range'_succ]
 rw[e]
 simp
theorem flatMap_eq {α:Type} {f g:Nat->List α}:∀ {l:List Nat},(∀ m∈l,f m=g m)->l.flatMap f=l.flatMap g
 | [],_=>rfl
 | a :: l,h=>by
  rw[List.flatMap_cons,List.flatMap_cons,h a (by simp),flatMap_eq (fun m hm=>h m (by simp[hm]))]
theorem flat_others {α:Type} {Es Es':Nat->List α} {j n:Nat} (h:∀ m,m≠j->Es' m=Es m):(List.range j).flatMap Es'=(List.range j).flatMap Es/\(List.range' (j+1) (n - j - 1)).flatMap Es'=(List.range' (j+1) (n - j - 1)).flatMap Es:=by
 refine⟨?_,?_⟩
 ·refine flatMap_eq (fun m hm=>h m ?_)
  have:=List.mem_range.1 hm
  omega
 ·refine flatMap_eq (fun m hm=>h m ?_)
  have:=List.mem_range'_1.1 hm
  omega
theorem rise_ne (hR:Rise L) {i j:Nat} {a b:Kd} (hi:L[i]?=some a) (hj:L[j]?=some b) (h:a.b=b.b):i=j:=by
 obtain⟨li,rfl⟩:=List.getElem?_eq_some_iff.1 hi
 obtain⟨lj,rfl⟩:=List.getElem?_eq_some_iff.1 hj
 rcases Nat.lt_trichotomy i j with h1|h1|h1
 ·have:=List.pairwise_iff_getElem.1 hR i j li lj h1;omega
 ·exact h1
 ·have:=List.pairwise_iff_getElem.1 hR j i lj li h1;omega
theorem turnK_at (hR:Rise L) {j:Nat} {kk:Kd} (hj:L[j]?=some kk) (s g:Int):z1t L kk.b s g=L.set j ⟨kk.b,s,g⟩:=by
 have hl:=(List.getElem?_eq_some_iff.1 hj).1
 refine List.ext_getElem? fun m=>?_
 unfold z1t
 rw[List.getElem?_map]
 by_cases h:j=m
 ·subst h
  rw[hj,List.getElem?_set_self hl]
  simp
 ·rw[List.getElem?_set_ne h]
  cases hm:L[m]? with
  | none=>rfl
  | some x =>
   have:¬ x.b=kk.b:=fun e=>h (rise_ne hR hm hj e).symm
   simp[this]
theorem findK_self (hR:Rise L) {j:Nat} {kk:Kd} (hj:L[j]?=some kk):z0p L kk.b=some kk:=by
 cases h:z0p L kk.b with
 | none =>
  unfold z0p at h
  have:=List.find?_eq_none.1 h kk (List.mem_of_getElem? hj)
  simp at this
 | some x =>
  obtain⟨h1,m,hm⟩:=findK_at h
  have e:=rise_ne hR hm hj h1
  subst e
  rw[hj] at hm
  exact hm.symm
section
variable {P P':List (Cel PNd)} {i:Nat} {g:Int} {k:Nat} {pt:ByteArray} {L:List Kd} {pl:Bool} {pre:List UInt8} {ki:Nat->Nat} {Ss:Nat->Nat->Prop} {Es:Nat->Ents}
theorem Sub.kid (hk:∀ j kd,L[j]?=some kd->kd.s=(ki j:Int)) (hsub:∀ j kd,L[j]?=some kd->Sub P (ki j) kd.g false (pre++byt pt++[kd.byte]) (Ss j) (Es j)) (d1:∀ j x,j<L.length->Ss j x->x≠i) (d2:∀ j j' x,j<L.length->j'<L.length->Ss j x->Ss j' x->j=j')
 (hr:Rise L) (hok:∀ kd∈L,kd.ok) (hl:L.length<=256) (hn:pl=false->2<=L.length/\k=kindOf L.length/\pt.size<=34) (ha:pl=true->k=5/\pt=⟨#[]⟩)
 {j:Nat} {kd:Kd} (hj:L[j]?=some kd) {u':Nat} {gu':Int} {Su':Nat->Prop} {Eu':Ents} (hs:Sub P' u' gu' false (pre++byt pt++[kd.byte]) Su' Eu') (h':z0l P' i g i ⟨.z0k k pt (L.set j ⟨kd.b,u',gu'⟩),pl,false⟩)
 (hf:∀ j' x,j'<L.length->j'≠j->Ss j' x->P'[x]?=P[x]?) (hd:∀ x,Su' x->x≠i/\∀ j',j'<L.length->j'≠j->¬ Ss j' x) (hok':(⟨kd.b,u',gu'⟩:Kd).ok) :
 ∃ S',Sub P' i g pl pre S' ((List.range j).flatMap Es++(Eu'++(List.range' (j+1) (L.length - j - 1)).flatMap Es))/\(∀ x,S' x->x=i\/Su' x\/∃ j',j'<L.length/\j'≠j/\Ss j' x):=by
 have hjl:=(List.getElem?_eq_some_iff.1 hj).1
 have hlen:(L.set j ⟨kd.b,u',gu'⟩).length=L.length:=by simp
 have hbyte:(⟨kd.b,u',gu'⟩:Kd).byte=kd.byte:=rfl
 have node:=Sub.node (P:=P') (pre:=pre) (ki:=fun m=>if m=j then u' else ki m) (Ss:=fun m=>if m=j then Su' else Ss m) (Es:=fun m=>if m=j then Eu' else Es m) h'
  (fun m x hm=>by
   by_cases e:m=j
   ·subst e
    rw[List.getElem?_set_self hjl] at hm
    cases hm
    simp
   ·rw[List.getElem?_set_ne (fun e'=>e e'.symm)] at hm
    simp only[if_neg e]
    exact hk m x hm)
  (fun m x hm=>by
   by_cases e:m=j
   ·subst e
    rw[List.getElem?_set_self hjl] at hm
    cases hm
    simp only[if_pos,hbyte]
    exact hs
   ·rw[List.getElem?_set_ne (fun e'=>e e'.symm)] at hm
    simp only[if_neg e]
    exact (hsub m x hm).frame (fun y hy=>hf m y (List.getElem?_eq_some_iff.1 hm).1 e hy))
  (fun m x hm hx=>by
   rw[hlen] at hm
   by_cases e:m=j
   ·subst e;simp only[if_pos] at hx;exact (hd x hx).1
   ·simp only[if_neg e] at hx;exact d1 m x hm hx)
  (fun m m' x hm hm' hx hx'=>by
   rw[hlen] at hm hm'
   by_cases e:m=j
   ·by_cases e':m'=j
    ·omega
    ·simp only[if_pos e] at hx
     simp only[if_neg e'] at hx'
     exact absurd hx' ((hd x hx).2 m' hm' e')
   ·by_cases e':m'=j
    ·simp only[if_neg e] at hx
     simp only[if_pos e'] at hx'
     exact absurd hx ((hd x hx').2 m hm e)
    ·simp only[if_neg e] at hx
     simp only[if_neg e'] at hx'
     exact d2 m m' x hm hm' hx hx')
  (by
   have:=turnK_at hr hj (u':Int) gu'
   rw[<- this]
   exact turnK_rise hr _ _ _)
  (fun x hx=>by
   rcases List.mem_or_eq_of_mem_set hx with hx|rfl
   ·exact hok x hx
   ·exact hok')
  (by rw[hlen];exact hl) (by rw[hlen];exact hn) ha
 refine⟨fun x=>x=i\/∃ j',j'<L.length/\(if j'=j then Su' else Ss j') x,?_,fun x hx=>?_⟩
 ·have e1:=flat_split (fun m=>if m=j then Eu' else Es m) hjl
  obtain⟨e2,e3⟩:=flat_others (Es:=Es) (Es':=fun m=>if m=j then Eu' else Es m) (j:=j) (n:=L.length) (fun m hm=>by simp[hm])
  simp only[hlen] at node
  rw[e1,e2,e3] at node
  simpa using node
 ·rcases hx with rfl|⟨m,hm,hx⟩
  ·exact .inl rfl
  ·by_cases e:m=j
   ·simp only[if_pos e] at hx;exact .inr (.inl hx)
   ·simp only[if_neg e] at hx;exact .inr (.inr ⟨m,hm,e,hx⟩)
end
end Go.Burg
