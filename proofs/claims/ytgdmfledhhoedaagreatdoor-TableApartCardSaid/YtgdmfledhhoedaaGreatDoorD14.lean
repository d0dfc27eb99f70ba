/- Part 14 of 27. -/
import Derived.Test.YtgdmfledhhoedaaGreatDoorD13
import Derived.Maps.OwnOps
import Derived.Test.YtgdmfledhhoedaaGreatDoorD10
import Derived.Test.YtgdmfledhhoedaaGreatDoorD09
namespace Go.Proofs.YtgdmfledhhoedaaGreatDoor.T
set_option maxRecDepth 8000
open Go.ChangeShapes Go.WideShapes Go.ChangeAt Go.RowKit Go.Burg
open Go.Burg.Lk
theorem own_cap {w:World} {B:Nat} {e:TypeId} {s n m c:Nat} {a:Option Addr} {xs:List Value} (h:w.ownsRow B e s (.slice a m c) n xs):n<=c:=by
 obtain⟨_,⟨h1,h2⟩|⟨g,cap,cur,h1,_,_,h3⟩⟩:=h
 ·omega
 ·simp only[Value.slice.injEq] at h1
  obtain⟨_,_,rfl⟩:=h1
  exact h3.1
def fnV (f:Nat):Value:=.func (.func f) #[] #[]
theorem plan_map (W:World) (m:Nat) (hm:W.heap.size=m):∃ W1 W2 W3 W4,(Instr.mapUpdate 144 (.map (some m)) (.int .i64 1) (.func (.func 58) #[] #[])).run Tryz.prog (W.alloc (.map #[] 0))=.ok () W1/\(Instr.mapUpdate 144 (.map (some m)) (.int .i64 2) (.func (.func 59) #[] #[])).run Tryz.prog W1=.ok () W2 /\
 (Instr.mapUpdate 144 (.map (some m)) (.int .i64 3) (.func (.func 60) #[] #[])).run Tryz.prog W2=.ok () W3/\(Instr.mapUpdate 144 (.map (some m)) (.int .i64 4) (.func (.func 60) #[] #[])).run Tryz.prog W3=.ok () W4 /\
 (Instr.lookup 144 (.map (some m)) (.int .i64 1) false).run Tryz.prog W4=.ok (.func (.func 58) #[] #[]) W4/\(Instr.lookup 144 (.map (some m)) (.int .i64 2) false).run Tryz.prog W4=.ok (.func (.func 59) #[] #[]) W4 /\
 (Instr.lookup 144 (.map (some m)) (.int .i64 3) false).run Tryz.prog W4=.ok (.func (.func 60) #[] #[]) W4/\(Instr.lookup 144 (.map (some m)) (.int .i64 4) false).run Tryz.prog W4=.ok (.func (.func 60) #[] #[]) W4/\Below W.heap.size W W4:=by
 subst hm
 have hM0:z0q (Value.int .i64) fnV (W.alloc (.map #[] 0)) W.heap.size []:=⟨#[],0,z0a _ _,by simp,by simp,by simp⟩
 obtain⟨W1,r1,M1,X1⟩:=hM0.store (P:=Tryz.prog) (KeyOk.int Tryz.underlying105) Tryz.underlying144 1 58
 obtain⟨W2,r2,M2,X2⟩:=M1.store (P:=Tryz.prog) (KeyOk.int Tryz.underlying105) Tryz.underlying144 2 59
 obtain⟨W3,r3,M3,X3⟩:=M2.store (P:=Tryz.prog) (KeyOk.int Tryz.underlying105) Tryz.underlying144 3 60
 obtain⟨W4,r4,M4,X4⟩:=M3.store (P:=Tryz.prog) (KeyOk.int Tryz.underlying105) Tryz.underlying144 4 60
 have hz:∀ w,(zeroValue 143).run Tryz.prog w=.ok .nilFunc w:=fun _=>by kernel_rfl
 have hX:=(((X1.trans X2 (fun _ _ h=>h)).trans X3 (fun _ _ h=>h)).trans X4 (fun _ _ h=>h))
 refine⟨W1,W2,W3,W4,r1,r2,r3,r4,M4.lookup (P:=Tryz.prog) (KeyOk.int Tryz.underlying105) Tryz.underlying144 hz 1 false,M4.lookup (P:=Tryz.prog) (KeyOk.int Tryz.underlying105) Tryz.underlying144 hz 2 false,M4.lookup (P:=Tryz.prog) (KeyOk.int Tryz.underlying105) Tryz.underlying144 hz 3 false,M4.lookup (P:=Tryz.prog) (KeyOk.int Tryz.underlying105) Tryz.underlying144 hz 4 false,?_⟩
 exact ((Below.refl _ _).alloc (Nat.le_refl _) _).trans ⟨hX.os,hX.tape,hX.output,hX.size,fun k hk=>hX.block k (by simp;omega) (by show ¬ _=_;omega)⟩
variable {c:ByteArray} {gen slot tk:Int} {l:List (Cel Nd)} {P:List (Cel PNd)} {L:List (RefK × Wd)} {i kb km sb sg t:Nat} {q:PNd}
set_option maxRecDepth 20000 in
set_option maxHeartbeats 4000000 in
theorem Plan_put1 {s:SpotP} (w:World) (h:TreeAt w t sb sg kb km l L tk) (hR:Rel w l P) (hr:RoomsAt w) (hc:z2l c) (hq:z0l P slot gen i q) (hp:q.planted=true) (hs:SeekW P c (slot,gen) 0 [] s) (hw:s.what=1)
 (kk:Nat) (dies:List (Int × Int)) (room:Nat) (hask:∀ w1 b g wc,Below w.heap.size w w1->SpotAt w1 b g wc s->s.way.length<=wc->Calls Tryz.prog 58 #[.pointer (some ⟨t,0,none⟩),.pointer (some ⟨b,0,none⟩)] w1 fun e w'=>∃ da dc,e=.returned (.agg #[z2k s g wc kk,.slice da dies.length dc,.int .i64 room])/\w'.ownsRow 0 36 2 (.slice da dies.length dc) dies.length (z1z dies)/\Below w1.heap.size w1 w') :
 Calls Tryz.prog 28 #[.pointer (some ⟨t,0,none⟩),.agg #[.int .i64 slot,.int .u32 gen],.string c,.bool true] w fun e w'=>∃ g wc da dc,e=.returned (.tuple #[.agg #[z2k s g wc kk,.slice da dies.length dc,.int .i64 room],.int .i64 0]) /\
  w'.ownsRow 0 36 2 (.slice (some ⟨g,0,none⟩) s.way.length wc) s.way.length (z1z s.way)/\w'.ownsRow 0 36 2 (.slice da dies.length dc) dies.length (z1z dies)/\Below w.heap.size w w':=by
 have hs1:(w.alloc (.cells #[.int .i64 slot,.int .u32 gen] 36 (0,0))).heap.size=w.heap.size+1:=by simp
 have b0:=z0c (o':=(.cells #[.slice none 0 0,.slice none 0 0,.int .i64 0] 90 (0,0))) (z0a w (.cells #[.int .i64 slot,.int .u32 gen] 36 (0,0)))
 have b1:=z0a (w.alloc (.cells #[.int .i64 slot,.int .u32 gen] 36 (0,0))) (.cells #[.slice none 0 0,.slice none 0 0,.int .i64 0] 90 (0,0))
 rw[hs1] at b1
 have hB:Below w.heap.size w ((w.alloc (.cells #[.int .i64 slot,.int .u32 gen] 36 (0,0))).alloc (.cells #[.slice none 0 0,.slice none 0 0,.int .i64 0] 90 (0,0))):=((Below.refl _ _).alloc (Nat.le_refl _) _).alloc (by simp) _
 have HSK:=hid (Seek_at ((w.alloc (.cells #[.int .i64 slot,.int .u32 gen] 36 (0,0))).alloc (.cells #[.slice none 0 0,.slice none 0 0,.int .i64 0] 90 (0,0))) (h.keep hB) (hR.keep hB) (hr.keep hB) hc hq hp hs)
 have HWH:=hid hw
 have HASK:=hid hask
 have HS:=hid hs
 have HWM:Hid (s.way.length<=100):=hid (by have h1:=SeekW.way_le hs;have h2:=hc.size;simp only[List.length_nil] at h1;omega)
 clear h hR hr hc hq hp hs hw hask hs1
 go_enter Tryz.func28,Tryz.ntmps28
 have hmm:=@run_makeMap Tryz.prog
 go_wp2_with (first|(go_at_call 30;refine HSK.out.mono ?_;rintro e w2 ⟨wa,wc,rfl,how,hb2⟩;go_loud (rw[HWH.out];obtain⟨g,rfl,lg,_⟩:=O.z0z (z2g how (Nat.zero_le _)) (SeekW.z1o HS.out);obtain⟨W1,W2,W3,W4,r1,r2,r3,r4,L1,L2,L3,L4,hbX⟩:=plan_map (w2.alloc (.cells #[.int .i64 1,.slice (some ⟨g,0,none⟩) s.way.length wc,.int .i64 s.at_,.int .i64 s.depth] 107 (0,0))) (w2.heap.size+1) (by simp);have hsp0:=z0a w2 (.cells #[.int .i64 1,.slice (some ⟨g,0,none⟩) s.way.length wc,.int .i64 s.at_,.int .i64 s.depth] 107 (0,0));have hb24:Below w2.heap.size w2 W4:=((Below.refl _ _).alloc (Nat.le_refl _) _).trans (hbX.mono (by simp));have hsp:=(hbX.block _ (lt_of_block hsp0)).trans hsp0;have how4:=O.z0h how (O.z0n (S:=fun _=>False) hb24) (fun _ _ h=>h);have hSA:SpotAt W4 w2.heap.size g wc s:=⟨(by rw[HWH.out];exact hsp),z2g how4 (Nat.zero_le _),SeekW.z1o HS.out,HWM.out⟩;have q0:=cell_of hsp 0;have hbw2:=hB.trans (hb2.mono hB.size);have hbw4:=hbw2.trans (hb24.mono hbw2.size);have h12:=(hb2.block _ (lt_of_block b1)).trans b1;have HA:=hid (HASK.out W4 w2.heap.size g wc hbw4 hSA (own_cap how));have HOW:=hid hSA.o;have H1:=hid ((hb24.block _ (lt_of_block h12)).trans h12);have HB4:=hid hbw4;clear how hb2 lg hbX hsp0 hb24 hsp how4 hSA hbw2 hbw4 h12))|(go_at_call 58;refine HA.out.mono ?_;rintro e w5 ⟨da,dc,rfl,hod,hb5⟩;go_loud (unfold z2k;have h1:=(hb5.block _ (lt_of_block H1.out)).trans H1.out;have p0:=cell_of h1 0;have p1:=cell_of h1 1;have p2:=cell_of h1 2;have pf:=z0e h1;have H15:=hid h1;have HOD:=hid hod;have HOW5:=hid (O.z0h HOW.out (O.z0n (S:=fun _=>False) hb5) (fun _ _ h=>h));have HB5:=hid (HB4.out.trans (hb5.mono HB4.out.size));clear h1 hod hb5)))
 obtain⟨m1,m2⟩:=set3_at (z2k s g wc kk) (.slice da dies.length dc) (.int .i64 room) H15.out
 have e0:=lt_of_block H15.out
 obtain⟨fs,hus⟩:∃ fs,Tryz.prog.underlying 90=some (.struct fs):=⟨_,rfl⟩
 have hR:=fun tm hp=>z1v (P:=Tryz.prog) (fn:=Tryz.f28) (p:=8) (u:=9) (ty:=90) (by kernel_rfl) tm _ (w.heap.size+1) _ _ _ _ hp m1 hus rfl (by kernel_rfl)
 unfold z2k at hR m1 m2
 refine bodyPost_ret (hR _ ?hp) ?hd ?post
 case hp=>rfl
 case hd=>rfl
 case post =>
  refine⟨g,wc,da,dc,rfl,?_,?_,z0x HB5.out m2 (by omega) (by omega)⟩
  ·exact O.z0h HOW5.out m2 (O.z1m HOW5.out H15.out (by decide))
  ·exact O.z0h HOD.out m2 (O.z1m HOD.out H15.out (by decide))
set_option maxRecDepth 20000 in
set_option maxHeartbeats 4000000 in
theorem Plan_put2 {s:SpotP} (w:World) (h:TreeAt w t sb sg kb km l L tk) (hR:Rel w l P) (hr:RoomsAt w) (hc:z2l c) (hq:z0l P slot gen i q) (hp:q.planted=true) (hs:SeekW P c (slot,gen) 0 [] s) (hw:s.what=2)
 (kk:Nat) (dies:List (Int × Int)) (room:Nat) (hask:∀ w1 b g wc,Below w.heap.size w w1->SpotAt w1 b g wc s->s.way.length<=wc->Calls Tryz.prog 59 #[.pointer (some ⟨t,0,none⟩),.pointer (some ⟨b,0,none⟩)] w1 fun e w'=>∃ da dc,e=.returned (.agg #[z2k s g wc kk,.slice da dies.length dc,.int .i64 room])/\w'.ownsRow 0 36 2 (.slice da dies.length dc) dies.length (z1z dies)/\Below w1.heap.size w1 w') :
 Calls Tryz.prog 28 #[.pointer (some ⟨t,0,none⟩),.agg #[.int .i64 slot,.int .u32 gen],.string c,.bool true] w fun e w'=>∃ g wc da dc,e=.returned (.tuple #[.agg #[z2k s g wc kk,.slice da dies.length dc,.int .i64 room],.int .i64 0]) /\
  w'.ownsRow 0 36 2 (.slice (some ⟨g,0,none⟩) s.way.length wc) s.way.length (z1z s.way)/\w'.ownsRow 0 36 2 (.slice da dies.length dc) dies.length (z1z dies)/\Below w.heap.size w w':=by
 have hs1:(w.alloc (.cells #[.int .i64 slot,.int .u32 gen] 36 (0,0))).heap.size=w.heap.size+1:=by simp
 have b0:=z0c (o':=(.cells #[.slice none 0 0,.slice none 0 0,.int .i64 0] 90 (0,0))) (z0a w (.cells #[.int .i64 slot,.int .u32 gen] 36 (0,0)))
 have b1:=z0a (w.alloc (.cells #[.int .i64 slot,.int .u32 gen] 36 (0,0))) (.cells #[.slice none 0 0,.slice none 0 0,.int .i64 0] 90 (0,0))
 rw[hs1] at b1
 have hB:Below w.heap.size w ((w.alloc (.cells #[.int .i64 slot,.int .u32 gen] 36 (0,0))).alloc (.cells #[.slice none 0 0,.slice none 0 0,.int .i64 0] 90 (0,0))):=((Below.refl _ _).alloc (Nat.le_refl _) _).alloc (by simp) _
 have HSK:=hid (Seek_at ((w.alloc (.cells #[.int .i64 slot,.int .u32 gen] 36 (0,0))).alloc (.cells #[.slice none 0 0,.slice none 0 0,.int .i64 0] 90 (0,0))) (h.keep hB) (hR.keep hB) (hr.keep hB) hc hq hp hs)
 have HWH:=hid hw
 have HASK:=hid hask
 have HS:=hid hs
 have HWM:Hid (s.way.length<=100):=hid (by have h1:=SeekW.way_le hs;have h2:=hc.size;simp only[List.length_nil] at h1;omega)
 clear h hR hr hc hq hp hs hw hask hs1
 go_enter Tryz.func28,Tryz.ntmps28
 have hmm:=@run_makeMap Tryz.prog
 go_wp2_with (first|(go_at_call 30;refine HSK.out.mono ?_;rintro e w2 ⟨wa,wc,rfl,how,hb2⟩;go_loud (rw[HWH.out];obtain⟨g,rfl,lg,_⟩:=O.z0z (z2g how (Nat.zero_le _)) (SeekW.z1o HS.out);obtain⟨W1,W2,W3,W4,r1,r2,r3,r4,L1,L2,L3,L4,hbX⟩:=plan_map (w2.alloc (.cells #[.int .i64 2,.slice (some ⟨g,0,none⟩) s.way.length wc,.int .i64 s.at_,.int .i64 s.depth] 107 (0,0))) (w2.heap.size+1) (by simp);have hsp0:=z0a w2 (.cells #[.int .i64 2,.slice (some ⟨g,0,none⟩) s.way.length wc,.int .i64 s.at_,.int .i64 s.depth] 107 (0,0));have hb24:Below w2.heap.size w2 W4:=((Below.refl _ _).alloc (Nat.le_refl _) _).trans (hbX.mono (by simp));have hsp:=(hbX.block _ (lt_of_block hsp0)).trans hsp0;have how4:=O.z0h how (O.z0n (S:=fun _=>False) hb24) (fun _ _ h=>h);have hSA:SpotAt W4 w2.heap.size g wc s:=⟨(by rw[HWH.out];exact hsp),z2g how4 (Nat.zero_le _),SeekW.z1o HS.out,HWM.out⟩;have q0:=cell_of hsp 0;have hbw2:=hB.trans (hb2.mono hB.size);have hbw4:=hbw2.trans (hb24.mono hbw2.size);have h12:=(hb2.block _ (lt_of_block b1)).trans b1;have HA:=hid (HASK.out W4 w2.heap.size g wc hbw4 hSA (own_cap how));have HOW:=hid hSA.o;have H1:=hid ((hb24.block _ (lt_of_block h12)).trans h12);have HB4:=hid hbw4;clear how hb2 lg hbX hsp0 hb24 hsp how4 hSA hbw2 hbw4 h12))|(go_at_call 59;refine HA.out.mono ?_;rintro e w5 ⟨da,dc,rfl,hod,hb5⟩;go_loud (unfold z2k;have h1:=(hb5.block _ (lt_of_block H1.out)).trans H1.out;have p0:=cell_of h1 0;have p1:=cell_of h1 1;have p2:=cell_of h1 2;have pf:=z0e h1;have H15:=hid h1;have HOD:=hid hod;have HOW5:=hid (O.z0h HOW.out (O.z0n (S:=fun _=>False) hb5) (fun _ _ h=>h));have HB5:=hid (HB4.out.trans (hb5.mono HB4.out.size));clear h1 hod hb5)))
 obtain⟨m1,m2⟩:=set3_at (z2k s g wc kk) (.slice da dies.length dc) (.int .i64 room) H15.out
 have e0:=lt_of_block H15.out
 obtain⟨fs,hus⟩:∃ fs,Tryz.prog.underlying 90=some (.struct fs):=⟨_,rfl⟩
 have hR:=fun tm hp=>z1v (P:=Tryz.prog) (fn:=Tryz.f28) (p:=8) (u:=9) (ty:=90) (by kernel_rfl) tm _ (w.heap.size+1) _ _ _ _ hp m1 hus rfl (by kernel_rfl)
 unfold z2k at hR m1 m2
 refine bodyPost_ret (hR _ ?hp) ?hd ?post
 case hp=>rfl
 case hd=>rfl
 case post =>
  refine⟨g,wc,da,dc,rfl,?_,?_,z0x HB5.out m2 (by omega) (by omega)⟩
  ·exact O.z0h HOW5.out m2 (O.z1m HOW5.out H15.out (by decide))
  ·exact O.z0h HOD.out m2 (O.z1m HOD.out H15.out (by decide))
set_option maxRecDepth 20000 in
set_option maxHeartbeats 4000000 in
theorem Plan_put3 {s:SpotP} (w:World) (h:TreeAt w t sb sg kb km l L tk) (hR:Rel w l P) (hr:RoomsAt w) (hc:z2l c) (hq:z0l P slot gen i q) (hp:q.planted=true) (hs:SeekW P c (slot,gen) 0 [] s) (hw:s.what=3)
 (kk:Nat) (dies:List (Int × Int)) (room:Nat) (hask:∀ w1 b g wc,Below w.heap.size w w1->SpotAt w1 b g wc s->s.way.length<=wc->Calls Tryz.prog 60 #[.pointer (some ⟨t,0,none⟩),.pointer (some ⟨b,0,none⟩)] w1 fun e w'=>∃ da dc,e=.returned (.agg #[z2k s g wc kk,.slice da dies.length dc,.int .i64 room])/\w'.ownsRow 0 36 2 (.slice da dies.length dc) dies.length (z1z dies)/\Below w1.heap.size w1 w') :
 Calls Tryz.prog 28 #[.pointer (some ⟨t,0,none⟩),.agg #[.int .i64 slot,.int .u32 gen],.string c,.bool true] w fun e w'=>∃ g wc da dc,e=.returned (.tuple #[.agg #[z2k s g wc kk,.slice da dies.length dc,.int .i64 room],.int .i64 0]) /\
  w'.ownsRow 0 36 2 (.slice (some ⟨g,0,none⟩) s.way.length wc) s.way.length (z1z s.way)/\w'.ownsRow 0 36 2 (.slice da dies.length dc) dies.length (z1z dies)/\Below w.heap.size w w':=by
 have hs1:(w.alloc (.cells #[.int .i64 slot,.int .u32 gen] 36 (0,0))).heap.size=w.heap.size+1:=by simp
 have b0:=z0c (o':=(.cells #[.slice none 0 0,.slice none 0 0,.int .i64 0] 90 (0,0))) (z0a w (.cells #[.int .i64 slot,.int .u32 gen] 36 (0,0)))
 have b1:=z0a (w.alloc (.cells #[.int .i64 slot,.int .u32 gen] 36 (0,0))) (.cells #[.slice none 0 0,.slice none 0 0,.int .i64 0] 90 (0,0))
 rw[hs1] at b1
 have hB:Below w.heap.size w ((w.alloc (.cells #[.int .i64 slot,.int .u32 gen] 36 (0,0))).alloc (.cells #[.slice none 0 0,.slice none 0 0,.int .i64 0] 90 (0,0))):=((Below.refl _ _).alloc (Nat.le_refl _) _).alloc (by simp) _
 have HSK:=hid (Seek_at ((w.alloc (.cells #[.int .i64 slot,.int .u32 gen] 36 (0,0))).alloc (.cells #[.slice none 0 0,.slice none 0 0,.int .i64 0] 90 (0,0))) (h.keep hB) (hR.keep hB) (hr.keep hB) hc hq hp hs)
 have HWH:=hid hw
 have HASK:=hid hask
 have HS:=hid hs
 have HWM:Hid (s.way.length<=100):=hid (by have h1:=SeekW.way_le hs;have h2:=hc.size;simp only[List.length_nil] at h1;omega)
 clear h hR hr hc hq hp hs hw hask hs1
 go_enter Tryz.func28,Tryz.ntmps28
 have hmm:=@run_makeMap Tryz.prog
 go_wp2_with (first|(go_at_call 30;refine HSK.out.mono ?_;rintro e w2 ⟨wa,wc,rfl,how,hb2⟩;go_loud (rw[HWH.out];obtain⟨g,rfl,lg,_⟩:=O.z0z (z2g how (Nat.zero_le _)) (SeekW.z1o HS.out);obtain⟨W1,W2,W3,W4,r1,r2,r3,r4,L1,L2,L3,L4,hbX⟩:=plan_map (w2.alloc (.cells #[.int .i64 3,.slice (some ⟨g,0,none⟩) s.way.length wc,.int .i64 s.at_,.int .i64 s.depth] 107 (0,0))) (w2.heap.size+1) (by simp);have hsp0:=z0a w2 (.cells #[.int .i64 3,.slice (some ⟨g,0,none⟩) s.way.length wc,.int .i64 s.at_,.int .i64 s.depth] 107 (0,0));have hb24:Below w2.heap.size w2 W4:=((Below.refl _ _).alloc (Nat.le_refl _) _).trans (hbX.mono (by simp));have hsp:=(hbX.block _ (lt_of_block hsp0)).trans hsp0;have how4:=O.z0h how (O.z0n (S:=fun _=>False) hb24) (fun _ _ h=>h);have hSA:SpotAt W4 w2.heap.size g wc s:=⟨(by rw[HWH.out];exact hsp),z2g how4 (Nat.zero_le _),SeekW.z1o HS.out,HWM.out⟩;have q0:=cell_of hsp 0;have hbw2:=hB.trans (hb2.mono hB.size);have hbw4:=hbw2.trans (hb24.mono hbw2.size);have h12:=(hb2.block _ (lt_of_block b1)).trans b1;have HA:=hid (HASK.out W4 w2.heap.size g wc hbw4 hSA (own_cap how));have HOW:=hid hSA.o;have H1:=hid ((hb24.block _ (lt_of_block h12)).trans h12);have HB4:=hid hbw4;clear how hb2 lg hbX hsp0 hb24 hsp how4 hSA hbw2 hbw4 h12))|(go_at_call 60;refine HA.out.mono ?_;rintro e w5 ⟨da,dc,rfl,hod,hb5⟩;go_loud (unfold z2k;have h1:=(hb5.block _ (lt_of_block H1.out)).trans H1.out;have p0:=cell_of h1 0;have p1:=cell_of h1 1;have p2:=cell_of h1 2;have pf:=z0e h1;have H15:=hid h1;have HOD:=hid hod;have HOW5:=hid (O.z0h HOW.out (O.z0n (S:=fun _=>False) hb5) (fun _ _ h=>h));have HB5:=hid (HB4.out.trans (hb5.mono HB4.out.size));clear h1 hod hb5)))
 obtain⟨m1,m2⟩:=set3_at (z2k s g wc kk) (.slice da dies.length dc) (.int .i64 room) H15.out
 have e0:=lt_of_block H15.out
 obtain⟨fs,hus⟩:∃ fs,Tryz.prog.underlying 90=some (.struct fs):=⟨_,rfl⟩
 have hR:=fun tm hp=>z1v (P:=Tryz.prog) (fn:=Tryz.f28) (p:=8) (u:=9) (ty:=90) (by kernel_rfl) tm _ (w.heap.size+1) _ _ _ _ hp m1 hus rfl (by kernel_rfl)
 unfold z2k at hR m1 m2
 refine bodyPost_ret (hR _ ?hp) ?hd ?post
 case hp=>rfl
 case hd=>rfl
 case post =>
  refine⟨g,wc,da,dc,rfl,?_,?_,z0x HB5.out m2 (by omega) (by omega)⟩
  ·exact O.z0h HOW5.out m2 (O.z1m HOW5.out H15.out (by decide))
  ·exact O.z0h HOD.out m2 (O.z1m HOD.out H15.out (by decide))
set_option maxRecDepth 20000 in
set_option maxHeartbeats 4000000 in
theorem Plan_put4 {s:SpotP} (w:World) (h:TreeAt w t sb sg kb km l L tk) (hR:Rel w l P) (hr:RoomsAt w) (hc:z2l c) (hq:z0l P slot gen i q) (hp:q.planted=true) (hs:SeekW P c (slot,gen) 0 [] s) (hw:s.what=4)
 (kk:Nat) (dies:List (Int × Int)) (room:Nat) (hask:∀ w1 b g wc,Below w.heap.size w w1->SpotAt w1 b g wc s->s.way.length<=wc->Calls Tryz.prog 60 #[.pointer (some ⟨t,0,none⟩),.pointer (some ⟨b,0,none⟩)] w1 fun e w'=>∃ da dc,e=.returned (.agg #[z2k s g wc kk,.slice da dies.length dc,.int .i64 room])/\w'.ownsRow 0 36 2 (.slice da dies.length dc) dies.length (z1z dies)/\Below w1.heap.size w1 w') :
 Calls Tryz.prog 28 #[.pointer (some ⟨t,0,none⟩),.agg #[.int .i64 slot,.int .u32 gen],.string c,.bool true] w fun e w'=>∃ g wc da dc,e=.returned (.tuple #[.agg #[z2k s g wc kk,.slice da dies.length dc,.int .i64 room],.int .i64 0]) /\
  w'.ownsRow 0 36 2 (.slice (some ⟨g,0,none⟩) s.way.length wc) s.way.length (z1z s.way)/\w'.ownsRow 0 36 2 (.slice da dies.length dc) dies.length (z1z dies)/\Below w.heap.size w w':=by
 have hs1:(w.alloc (.cells #[.int .i64 slot,.int .u32 gen] 36 (0,0))).heap.size=w.heap.size+1:=by simp
 have b0:=z0c (o':=(.cells #[.slice none 0 0,.slice none 0 0,.int .i64 0] 90 (0,0))) (z0a w (.cells #[.int .i64 slot,.int .u32 gen] 36 (0,0)))
 have b1:=z0a (w.alloc (.cells #[.int .i64 slot,.int .u32 gen] 36 (0,0))) (.cells #[.slice none 0 0,.slice none 0 0,.int .i64 0] 90 (0,0))
 rw[hs1] at b1
 have hB:Below w.heap.size w ((w.alloc (.cells #[.int .i64 slot,.int .u32 gen] 36 (0,0))).alloc (.cells #[.slice none 0 0,.slice none 0 0,.int .i64 0] 90 (0,0))):=((Below.refl _ _).alloc (Nat.le_refl _) _).alloc (by simp) _
 have HSK:=hid (Seek_at ((w.alloc (.cells #[.int .i64 slot,.int .u32 gen] 36 (0,0))).alloc (.cells #[.slice none 0 0,.slice none 0 0,.int .i64 0] 90 (0,0))) (h.keep hB) (hR.keep hB) (hr.keep hB) hc hq hp hs)
 have HWH:=hid hw
 have HASK:=hid hask
 have HS:=hid hs
 have HWM:Hid (s.way.length<=100):=hid (by have h1:=SeekW.way_le hs;have h2:=hc.size;simp only[List.length_nil] at h1;omega)
 clear h hR hr hc hq hp hs hw hask hs1
 go_enter Tryz.func28,Tryz.ntmps28
 have hmm:=@run_makeMap Tryz.prog
 go_wp2_with (first|(go_at_call 30;refine HSK.out.mono ?_;rintro e w2 ⟨wa,wc,rfl,how,hb2⟩;go_loud (rw[HWH.out];obtain⟨g,rfl,lg,_⟩:=O.z0z (z2g how (Nat.zero_le _)) (SeekW.z1o HS.out);obtain⟨W1,W2,W3,W4,r1,r2,r3,r4,L1,L2,L3,L4,hbX⟩:=plan_map (w2.alloc (.cells #[.int .i64 4,.slice (some ⟨g,0,none⟩) s.way.length wc,.int .i64 s.at_,.int .i64 s.depth] 107 (0,0))) (w2.heap.size+1) (by simp);have hsp0:=z0a w2 (.cells #[.int .i64 4,.slice (some ⟨g,0,none⟩) s.way.length wc,.int .i64 s.at_,.int .i64 s.depth] 107 (0,0));have hb24:Below w2.heap.size w2 W4:=((Below.refl _ _).alloc (Nat.le_refl _) _).trans (hbX.mono (by simp));have hsp:=(hbX.block _ (lt_of_block hsp0)).trans hsp0;have how4:=O.z0h how (O.z0n (S:=fun _=>False) hb24) (fun _ _ h=>h);have hSA:SpotAt W4 w2.heap.size g wc s:=⟨(by rw[HWH.out];exact hsp),z2g how4 (Nat.zero_le _),SeekW.z1o HS.out,HWM.out⟩;have q0:=cell_of hsp 0;have hbw2:=hB.trans (hb2.mono hB.size);have hbw4:=hbw2.trans (hb24.mono hbw2.size);have h12:=(hb2.block _ (lt_of_block b1)).trans b1;have HA:=hid (HASK.out W4 w2.heap.size g wc hbw4 hSA (own_cap how));have HOW:=hid hSA.o;have H1:=hid ((hb24.block _ (lt_of_block h12)).trans h12);have HB4:=hid hbw4;clear how hb2 lg hbX hsp0 hb24 hsp how4 hSA hbw2 hbw4 h12))|(go_at_call 60;refine HA.out.mono ?_;rintro e w5 ⟨da,dc,rfl,hod,hb5⟩;go_loud (unfold z2k;have h1:=(hb5.block _ (lt_of_block H1.out)).trans H1.out;have p0:=cell_of h1 0;have p1:=cell_of h1 1;have p2:=cell_of h1 2;have pf:=z0e h1;have H15:=hid h1;have HOD:=hid hod;have HOW5:=hid (O.z0h HOW.out (O.z0n (S:=fun _=>False) hb5) (fun _ _ h=>h));have HB5:=hid (HB4.out.trans (hb5.mono HB4.out.size));clear h1 hod hb5)))
 obtain⟨m1,m2⟩:=set3_at (z2k s g wc kk) (.slice da dies.length dc) (.int .i64 room) H15.out
 have e0:=lt_of_block H15.out
 obtain⟨fs,hus⟩:∃ fs,Tryz.prog.underlying 90=some (.struct fs):=⟨_,rfl⟩
 have hR:=fun tm hp=>z1v (P:=Tryz.prog) (fn:=Tryz.f28) (p:=8) (u:=9) (ty:=90) (by kernel_rfl) tm _ (w.heap.size+1) _ _ _ _ hp m1 hus rfl (by kernel_rfl)
 unfold z2k at hR m1 m2
 refine bodyPost_ret (hR _ ?hp) ?hd ?post
 case hp=>rfl
 case hd=>rfl
 case post =>
  refine⟨g,wc,da,dc,rfl,?_,?_,z0x HB5.out m2 (by omega) (by omega)⟩
  ·exact O.z0h HOW5.out m2 (O.z1m HOW5.out H15.out (by decide))
  ·exact O.z0h HOD.out m2 (O.z1m HOD.out H15.out (by decide))
end Go.Proofs.YtgdmfledhhoedaaGreatDoor.T
namespace Go.Burg
open Go
def z1j {α:Type} (l:List (Cel α)):Nat:=(l.filter Cel.room).length
theorem roomN_step {α:Type} {l:List (Cel α)} {k:Nat} {c:Cel α} (h:l[k]?=some c):z1j (l.take (k+1))=z1j (l.take k)+(if c.room=true then 1 else 0):=by
 unfold z1j
 rw[List.take_add_one,h]
 simp only[Option.toList_some,List.filter_append,List.length_append]
 cases hr:c.room<;>simp[hr]
theorem roomN_le {α:Type} (l:List (Cel α)):z1j l<=l.length:=List.length_filter_le _ _
theorem roomN_pos {α:Type} {l:List (Cel α)} {j:Nat} (h:z2s l (j:Int)):1<=z1j l:=by
 rcases h with ⟨k,c,_,h1,h2,_⟩|⟨h,_⟩
 ·have:c∈l.filter Cel.room:=List.mem_filter.2 ⟨List.mem_of_getElem? h1,h2⟩
  exact List.length_pos_of_mem this
 ·omega
end Go.Burg
namespace Go.Proofs.YtgdmfledhhoedaaGreatDoor.S
set_option maxRecDepth 8000
open Go.ChangeShapes Go.WideShapes Go.ChangeAt Go.RowKit Go.Burg
variable {l:List (Cel Nd)} {b g:Nat}
set_option maxHeartbeats 2000000 in
theorem count_any (w:World) (h:SlabN 193 150 w b g l) :
 Calls Tryz.prog 62 #[.pointer (some ⟨b,0,none⟩),.func (.func 63) #[] #[]] w fun e w'=>e=.returned (.int .i64 (z1j l))/\Below w.heap.size w w':=by
 obtain⟨c0,f0⟩:=h.head
 have hn:=h.top
 have hgl:=h.glt
 have HC:=hid h.hc
 clear h
 go_enter Tryz.func62,Tryz.ntmps62
 go_wp2_with fail
 clear c0 f0
 go_loopw [4,12] (fun cv iv wr=>∃ k:Nat,k<=l.length/\iv=.int .i64 k/\cv=.int .i64 (z1j (l.take k))/\Below w.heap.size w wr) (fun _ iv _=>l.length - (intOf iv).toNat)
 case atStart=>exact⟨0,Nat.zero_le _,rfl,rfl,Below.refl _ _⟩
 case round =>
  obtain⟨k,hk,rfl,rfl,hB⟩:=hrel
  have HB:=hid hB
  have hrl:=roomN_le (l.take k)
  rw[List.length_take] at hrl
  by_cases hlt:k<l.length
  ·obtain⟨⟨c0,c1,c2,c3,c4,c5,c6,c7,c8,c9⟩,cf,g1,g2⟩:=(HC.out.same (hB.block g hgl)).cell (List.getElem?_eq_getElem hlt)
   have HI:=hid (List.getElem?_eq_getElem hlt)
   generalize l[k]=c at c0 c1 c2 c3 c4 c5 c6 c7 c8 c9 g1 g2 HI
   obtain⟨is,⟨kn,cd,vl,pt,⟨ya,yn,yc⟩,⟨za,zn,zc⟩,pl,di⟩,gen⟩:=c
   simp only at c0 c1 c2 c3 c4 c5 c6 c7 c8 c9 g1 g2
   have hd:decide (l.length<=k)=false:=by simp;exact hlt
   clear hB
   have HR:=hid (fun w=>room_any is kn cd vl pt ⟨ya,yn,yc⟩ ⟨za,zn,zc⟩ pl di gen w)
   have hro:(⟨is,⟨kn,cd,vl,pt,⟨ya,yn,yc⟩,⟨za,zn,zc⟩,pl,di⟩,gen⟩:Cel Nd).room=(!is && decide (gen<4294967295)):=rfl
   generalize (!is && decide (gen<4294967295))=rm at HR hro
   have HRO:=hid hro
   clear hro
   cases rm
   ·go_wp2_with (go_at_call 63;refine (HR.out _).mono ?_;rintro e w2 ⟨rfl,hB2⟩;have HB2:=hid hB2;clear hB2)
    have hst:=roomN_step HI.out
    rw[HRO.out] at hst
    refine⟨⟨k+1,by omega,by go_num,by rw[hst];simp,?_⟩,by simp[intOf];omega⟩
    exact HB.out.trans ((((Below.refl _ _).alloc (Nat.le_refl _) _).trans (HB2.out.mono (by simp))).mono HB.out.size)
   ·go_wp2_with (go_at_call 63;refine (HR.out _).mono ?_;rintro e w2 ⟨rfl,hB2⟩;have HB2:=hid hB2;clear hB2)
    have hst:=roomN_step HI.out
    rw[HRO.out] at hst
    refine⟨⟨k+1,by omega,by go_num,by rw[hst];simp,?_⟩,by simp[intOf];omega⟩
    exact HB.out.trans ((((Below.refl _ _).alloc (Nat.le_refl _) _).trans (HB2.out.mono (by simp))).mono HB.out.size)
  ·obtain rfl:k=l.length:=by omega
   have hd:decide (l.length<=l.length)=true:=by simp
   go_wp2_with fail
   go_ret
   rw[List.take_length]
   exact⟨rfl,HB.out⟩
theorem left_any (w:World) (h:SlabN 193 150 w b g l):Calls Tryz.prog 29 #[.pointer (some ⟨b,0,none⟩)] w fun e w'=>e=.returned (.int .i64 (z1j l))/\Below w.heap.size w w':=by
 have H:=hid h
 have HT:=hid (there_any w h)
 clear h
 go_enter Tryz.func29,Tryz.ntmps29
 go_wp2_with (first|(go_at_call 61;refine HT.out.mono ?_;rintro e w2 ⟨rfl,hb2⟩;go_loud (have HC:=hid (count_any w2 (H.out.keep hb2));have HB2:=hid hb2;clear hb2))|(go_at_call 62;refine HC.out.mono ?_;rintro e w3 ⟨rfl,hb3⟩;have HB3:=hid hb3;clear hb3))
 go_ret
 exact⟨rfl,HB2.out.trans (HB3.out.mono HB2.out.size)⟩
end Go.Proofs.YtgdmfledhhoedaaGreatDoor.S
namespace Go.Proofs.YtgdmfledhhoedaaGreatDoor.T
set_option maxRecDepth 8000
open Go.ChangeShapes Go.WideShapes Go.ChangeAt Go.RowKit Go.Burg
open Go.Burg.Lk
structure TakeMid (W:World) (sb sg k:Nat) (l':List (Cel Nd)) (gen:Int) (w3:World) (u:Nat):Prop where
 m:Mod (·=sg) W w3
 s:SlabN 193 150 w3 sb sg l'
 u:w3.heap[u]?=some (.cells #[.int .i64 k,.int .u32 gen] 36 (0,0))
variable {c:Cel Nd} {l l':List (Cel Nd)} {k kb km sb sg t:Nat} {W w2:World}
theorem midA (hM:Mod (·=sg) W w2) (hs:SlabN 193 150 w2 sb sg l'):TakeMid W sb sg k l' (c.gen+1) (w2.alloc (.cells #[.int .i64 k,.int .u32 (c.gen+1)] 36 (0,0))) w2.heap.size :=
 ⟨hM.alloc _,hs.alloc _,z0a _ _⟩
theorem midB (hM:Mod (·=sg) W w2) (hs:SlabN 193 150 w2 sb sg l') (z:w2.heap[W.heap.size]?=some (.cells #[.int .i64 0,.int .u32 0] 36 (0,0))) (hne:W.heap.size≠sg):TakeMid W sb sg k l' (c.gen+1) ((w2.setCell ⟨W.heap.size,0,none⟩ (.int .i64 k)).setCell ⟨W.heap.size,1,none⟩ (.int .u32 (c.gen+1))) W.heap.size:=by
 have h1:sb≠W.heap.size:=fun e=>by have:=hs.hb;rw[e,z] at this;simp at this
 have e:∀ (w:World) (j:Nat) (v:Value) (b:Nat),b≠W.heap.size->(w.setCell ⟨W.heap.size,j,none⟩ v).heap[b]?=w.heap[b]?:=fun w j v b h=>Below.heap_setCell _ _ _ _ (by simpa using h)
 refine⟨(hM.setCell (p:=⟨W.heap.size,0,none⟩) (.inr (Nat.le_refl _)) _).setCell (p:=⟨W.heap.size,1,none⟩) (.inr (Nat.le_refl _)) _,hs.same ((e _ _ _ _ h1).trans (e _ _ _ _ h1)) ((e _ _ _ _ hne.symm).trans (e _ _ _ _ hne.symm)),?_⟩
 exact z0y (z0y (cs':=#[.int .i64 k,.int .u32 0]) z rfl) rfl
variable {tk:Int} {L:List (RefK × Wd)}
set_option maxHeartbeats 4000000 in
theorem take_at (k0:Int) (cd vl pt:ByteArray) (ya za:Option Addr) (yn yc zn zc:Nat) (pl:Bool) (w:World) (h:TreeAt w t sb sg kb km l L tk)
 (hF:z2s l (k:Int)) (hk:l[k]?=some c) (hr:c.room=true) (r:RefK) (hr1:r.1.1=k) (hr2:r.1.2=c.gen+1) :
 Calls Tryz.prog 34 #[.pointer (some ⟨t,0,none⟩),.agg #[.int .i64 k0,.string cd,.string vl,.string pt,.slice ya yn yc,.slice za zn zc],.bool pl] w fun e w'=>e=.returned (.tuple #[.agg #[.int .i64 k,.int .u32 (c.gen+1)],.int .i64 0])/\TreeAt w' t sb sg kb km (l.set k ⟨true,(⟨k0,cd,vl,pt,⟨ya,yn,yc⟩,⟨za,zn,zc⟩,pl,false⟩:Nd),c.gen+1⟩) (K.addL L r).2 tk/\Mod (TOwn sg km) w w':=by
 have hs1:(w.alloc (.cells #[.int .i64 k0,.string cd,.string vl,.string pt,.slice ya yn yc,.slice za zn zc] 102 (0,0))).heap.size=w.heap.size+1:=by simp
 have hN:=z0a (w.alloc (.cells #[.int .i64 k0,.string cd,.string vl,.string pt,.slice ya yn yc,.slice za zn zc] 102 (0,0))) (.cells #[.int .i64 0,.int .u32 0] 36 (0,0))
 rw[hs1] at hN
 have hX:=z0c (o':=(.cells #[.int .i64 0,.int .u32 0] 36 (0,0))) (z0a w (.cells #[.int .i64 k0,.string cd,.string vl,.string pt,.slice ya yn yc,.slice za zn zc] 102 (0,0)))
 have hA:=(h.alloc (.cells #[.int .i64 k0,.string cd,.string vl,.string pt,.slice ya yn yc,.slice za zn zc] 102 (0,0))).alloc (.cells #[.int .i64 0,.int .u32 0] 36 (0,0))
 have hB:Below w.heap.size w ((w.alloc (.cells #[.int .i64 k0,.string cd,.string vl,.string pt,.slice ya yn yc,.slice za zn zc] 102 (0,0))).alloc (.cells #[.int .i64 0,.int .u32 0] 36 (0,0))):=((Below.refl _ _).alloc (Nat.le_refl _) _).alloc (by simp) _
 have hsz:((w.alloc (.cells #[.int .i64 k0,.string cd,.string vl,.string pt,.slice ya yn yc,.slice za zn zc] 102 (0,0))).alloc (.cells #[.int .i64 0,.int .u32 0] 36 (0,0))).heap.size=w.heap.size+1+1:=by simp
 have h0:=hid h
 clear h hs1
 generalize hW:(w.alloc (.cells #[.int .i64 k0,.string cd,.string vl,.string pt,.slice ya yn yc,.slice za zn zc] 102 (0,0))).alloc (.cells #[.int .i64 0,.int .u32 0] 36 (0,0))=W at *
 have HW:=hid hW
 have HF:=hid hF
 have HK:=hid hk
 have HR:=hid hr
 have HR1:=hid hr1
 have HR2:=hid hr2
 have HA:=hid hA
 have HN:=hid hN
 have HX:=hid hX
 have HB:=hid hB
 have HSZ:=hid hsz
 clear hW hF hk hr hr1 hr2 hA hN hX hB hsz
 go_enter Tryz.func34,Tryz.ntmps34
 go_wp2_with fail
 rw[HW.out]
 have c0:=cell_of HA.out.ht 0
 have x0:=cell_of HX.out 0
 have x1:=cell_of HX.out 1
 have x2:=cell_of HX.out 2
 have x3:=cell_of HX.out 3
 have x4:=cell_of HX.out 4
 have x5:=cell_of HX.out 5
 have l0:=lt_of_block HX.out
 have l1:=lt_of_block HA.out.ht
 have l2:=lt_of_block HN.out
 have hne:W.heap.size≠sg:=by have:=HA.out.hs.glt;omega
 have HT:=hid (fun (w1:World) (hw1:Below W.heap.size W w1)=>S.take_yes k0 cd vl pt ya za yn yc zn zc pl false w1 (HA.out.keep hw1).hs HF.out HK.out HR.out)
 go_region_with (go_at_call 69;refine (HT.out _ (by (repeat (first|exact Below.refl _ _|assumption|with_reducible refine Below.drew ?_|with_reducible refine below_drewN ?_|with_reducible refine Below.setCell ?_ (by first|(simp;done)|(simp;omega)) _|with_reducible refine Below.alloc ?_ (by first|exact Nat.le_refl _|(simp;done)|(simp;omega)) _)))).mono ?_;rintro e w2 ⟨rfl,hS,hM⟩;(try (have z:w2.heap[W.heap.size]?=some (.cells #[.int .i64 0,.int .u32 0] 36 (0,0)):=(hM.block W.heap.size (by simp) hne).trans (z0a W (.cells #[.int .i64 0,.int .u32 0] 36 (0,0)));have z0:=cell_of z 0;have z1:=cell_of z 1;have zf:=z0e z));have HS:=hid hS;have HM:=hid hM;clear hS hM)
 all_goals go_wp2_with fail
 all_goals have hM2:Mod (·=sg) W w2:=(Mod.z0j (by (repeat (first|exact Below.refl _ _|assumption|with_reducible refine Below.drew ?_|with_reducible refine below_drewN ?_|with_reducible refine Below.setCell ?_ (by first|(simp;done)|(simp;omega)) _|with_reducible refine Below.alloc ?_ (by first|exact Nat.le_refl _|(simp;done)|(simp;omega)) _)))).trans HM.out (fun _ _ h=>h)
 all_goals first|(have hmid:=midB (c:=c) (k:=k) hM2 HS.out z hne;generalize hE:((w2.setCell ⟨W.heap.size,0,none⟩ (.int .i64 k)).setCell ⟨W.heap.size,1,none⟩ (.int .u32 (c.gen+1)))=w3 at hmid ⊢;generalize hEu:W.heap.size=u at hmid ⊢)|(have hmid:=midA (c:=c) (k:=k) hM2 HS.out;generalize hE:(w2.alloc (.cells #[.int .i64 k,.int .u32 (c.gen+1)] 36 (0,0)))=w3 at hmid ⊢;generalize hEu:w2.heap.size=u at hmid ⊢)
 all_goals have hle:W.heap.size<=u:=by have:=hM2.size;omega
 all_goals
  have hnes:=HA.out.ne
  have hsz:=HSZ.out
  try clear z z0 z1 zf
  clear hE hEu hM2 HS HM HT c0 x0 x1 x2 x3 x4 x5
  obtain⟨hm,hs,hu⟩:=hmid
  have HT3:=hid ((hm.block t l1 hnes.1).trans HA.out.ht)
  have HK3:=hid (HA.out.hk.mod hm hnes.2.2.2.2.1 (fun e=>hnes.2.2.2.2.2.2 e.symm))
  have HN3:=hid ((hm.block (w.heap.size+1) l2 (by have:=h0.out.hs.glt;omega)).trans HN.out)
  have HU:=hid hu
  have HS3:=hid hs
  have HM3:=hid hm
  have hkm:km<W.heap.size:=HA.out.hk.lt.2
  have hulen:=lt_of_block hu
  have hn1:u≠km:=by omega
  have hn2:t≠km:=hnes.2.1
  have hn3:kb≠km:=hnes.2.2.2.2.2.1
  have hn4:w.heap.size+1≠km:=by have:=h0.out.hk.lt.2;omega
  clear hm hs hu hnes
  refine z0f 6 (Turn 5 (fun w1=>Mod (·=km) w3 w1/\z0q refV K.wV w1 km L) (fun w1=>Mod (·=km) w3 w1/\z0q refV K.wV w1 km (K.addL L r).2)) (by kernel_rfl) (by kernel_rfl) (by kernel_rfl) (Turn.start ⟨(Mod.refl (·=km) w3).drew,HK3.out.2.same rfl⟩) ?_
  dsimp only[List.take]
  iterate 5
   refine Seq.calm (a':=?_) (by decide) ?_ ?_ ?_
   rotate_left
   ·intro w1 hw1
    have hM:Mod (·=km) w3 w1:=hw1.elim (·.1) (·.1)
    have ht4:=(hM.block t (lt_of_block HT3.out) hn2).trans HT3.out
    have hu4:=(hM.block u hulen hn1).trans HU.out
    have u0:=cell_of hu4 0
    have u1:=cell_of hu4 1
    have t1:=cell_of ht4 1
    clear hM ht4 hu4 hw1
    go_wp2_with (fail)
    refine⟨?_,id,id⟩;exact rfl
   ·kernel_rfl
  refine Seq.turn (a':=?_) ?_ ?_ ?_
  rotate_left
  ·intro w1 hw1
   have hL:K.z1r w1 kb km L tk:=⟨(hw1.1.block kb HK3.out.lt.1 hn3).trans HK3.out.1,hw1.2⟩
   have HAD:=K.add_at hL r
   rw[HR1.out,HR2.out] at HAD
   have HAD:=hid HAD
   have HM:=hid hw1.1
   clear hw1 hL
   go_wp2_with (go_at_call 70;refine HAD.out.mono ?_;rintro e w2 ⟨rfl,hP,hX⟩)
   refine⟨?_,HM.out.trans hX (fun _ _ h=>h),hP⟩
   exact rfl
  ·kernel_rfl
  iterate 0
   refine Seq.calm (a':=?_) (by decide) ?_ ?_ ?_
   rotate_left
   ·intro w1 hw1
    have hM:Mod (·=km) w3 w1:=hw1.elim (·.1) (·.1)
    have ht4:=(hM.block t (lt_of_block HT3.out) hn2).trans HT3.out
    have hu4:=(hM.block u hulen hn1).trans HU.out
    have u0:=cell_of hu4 0
    have u1:=cell_of hu4 1
    have t1:=cell_of ht4 1
    clear hM ht4 hu4 hw1
    go_wp2_with (fail)
    refine⟨?_,id,id⟩;exact rfl
   ·kernel_rfl
  refine SeqI.nil ?_
  intro D w1 hD hI
  replace hI:=hI.done (hD 5 (by omega))
  clear hD
  dsimp only[List.drop]
  obtain⟨hM4,hP4⟩:=hI
  have HU4:=(hM4.block u hulen hn1).trans HU.out
  have HN4:=(hM4.block (w.heap.size+1) (lt_of_block HN3.out) hn4).trans HN3.out
  have u0:=cell_of HU4 0
  have u1:=cell_of HU4 1
  have n0:=cell_of HN4 0
  have n1:=cell_of HN4 1
  have nf:=z0e HN4
  clear HU4 HN4
  have HM4:=hid hM4
  have HP4:=hid hP4
  clear hM4 hP4
  go_wp2_with fail
  refine bodyPost_ret (v:=.tuple #[.agg #[_,_],_]) (by simp[results,Tryz.results34,go_sem,n0,n1]) rfl ⟨rfl,?_⟩
  have hn:=HA.out.ne
  have hM4:=HM4.out
  have hT1:TreeAt w1 t sb sg kb km (l.set k ⟨true,(⟨k0,cd,vl,pt,⟨ya,yn,yc⟩,⟨za,zn,zc⟩,pl,false⟩:Nd),c.gen+1⟩) (K.addL L r).2 tk:=⟨(hM4.block t (lt_of_block HT3.out) hn2).trans HT3.out,HS3.out.mod hM4 hn.2.2.1 hn.2.2.2.2.2.2,(hM4.block kb HK3.out.lt.1 hn3).trans HK3.out.1,HP4.out⟩
  have g1:=lt_of_block h0.out.ht
  have g2:=h0.out.hs.blt
  have g3:=h0.out.hs.glt
  have g4:=h0.out.hk.lt
  have hX:=Mod.setCell (S:=(·=w.heap.size+1)) (p:=⟨w.heap.size+1,1,none⟩) (Mod.setCell (S:=(·=w.heap.size+1)) (p:=⟨w.heap.size+1,0,none⟩) (Mod.refl _ w1) (.inl rfl) (.int .i64 k)) (.inl rfl) (.int .u32 (c.gen+1))
  have hM0:Mod (TOwn sg km) w w1:=((Mod.z0j (S:=TOwn sg km) HB.out).trans HM3.out (fun _ _ h=>.inl h)).trans hM4 (fun _ _ h=>.inr h)
  exact⟨hT1.mod hX (by omega) (by omega) (by omega) (by omega) (by omega),hM0.trans hX (fun i hi h=>by omega)⟩
def anchorN:Nd:=⟨5,⟨#[]⟩,⟨#[]⟩,⟨#[]⟩,⟨none,0,0⟩,⟨none,0,0⟩,true,false⟩
theorem plant_at (w:World) (h:TreeAt w t sb sg kb km l L tk)
 (hF:z2s l (k:Int)) (hk:l[k]?=some c) (hr:c.room=true) (r:RefK) (hr1:r.1.1=k) (hr2:r.1.2=c.gen+1) :
 Calls Tryz.prog 25 #[.pointer (some ⟨t,0,none⟩)] w fun e w'=>e=.returned (.tuple #[.agg #[.int .i64 k,.int .u32 (c.gen+1)],.int .i64 0])/\TreeAt w' t sb sg kb km (l.set k ⟨true,anchorN,c.gen+1⟩) (K.addL L r).2 tk/\Mod (TOwn sg km) w w':=by
 have hA:=h.alloc (.cells #[.int .i64 0,.int .u32 0] 36 (0,0))
 have hN:=z0a w (.cells #[.int .i64 0,.int .u32 0] 36 (0,0))
 have hM:=hid (tmade_at _ hA.ht)
 have hT:=hid (take_at 5 ⟨#[]⟩ ⟨#[]⟩ ⟨#[]⟩ none none 0 0 0 0 true _ hA hF hk hr r hr1 hr2)
 have h0:=hid h
 have HN:=hid hN
 clear h hA hF hk hr hr1 hr2 hN
 have hno:¬ TOwn sg km w.heap.size:=fun e=>by have:=h0.out.hs.glt;have:=h0.out.hk.lt;rcases e with e|e<;>omega
 go_enter Tryz.func25,Tryz.ntmps25
 go_wp2_with (first|(go_at_call 56;refine hM.out.mono ?_;rintro e w2 ⟨rfl,rfl⟩)|(go_at_call 34;refine hT.out.mono ?_;rintro e w2 ⟨rfl,hT2,hM2⟩;have hn:=(hM2.block w.heap.size (by simp) hno).trans HN.out;have n0:=cell_of hn 0;have n1:=cell_of hn 1;have nf:=z0e hn;clear hn))
 refine bodyPost_ret (v:=.tuple #[.agg #[_,_],_]) (by simp[results,Tryz.results25,go_sem,n0,n1]) rfl ⟨rfl,?_⟩
 have g1:=lt_of_block h0.out.ht
 have g2:=h0.out.hs.blt
 have g3:=h0.out.hs.glt
 have g4:=h0.out.hk.lt
 have hX:=Mod.setCell (S:=(·=w.heap.size)) (p:=⟨w.heap.size,1,none⟩) (Mod.setCell (S:=(·=w.heap.size)) (p:=⟨w.heap.size,0,none⟩) (Mod.refl _ w2) (.inl rfl) (.int .i64 k)) (.inl rfl) (.int .u32 (c.gen+1))
 have hM0:Mod (TOwn sg km) w w2:=((Mod.refl (TOwn sg km) w).alloc (.cells #[.int .i64 0,.int .u32 0] 36 (0,0))).trans hM2 (fun _ _ h=>h)
 exact⟨hT2.mod hX (by omega) (by omega) (by omega) (by omega) (by omega),hM0.trans hX (fun i hi h=>by omega)⟩
theorem tNew_at (n:Nat) (w:World) (h1:1<=n) (h2:n<=4096) :
 Calls Tryz.prog 21 #[.int .i64 n] w fun e w'=>∃ t sb sg kb km,e=.returned (.tuple #[.pointer (some ⟨t,0,none⟩),.int .i64 0])/\TreeAt w' t sb sg kb km (List.replicate n ⟨false,Nd.zero,0⟩) [] 0/\(w.heap.size<=t/\w.heap.size<=sb/\w.heap.size<=sg/\w.heap.size<=kb/\w.heap.size<=km)/\Below w.heap.size w w':=by
 have HS:=hid (S.new_any n w h1 h2)
 have HK:=hid (fun w=>K.new_at w)
 go_enter Tryz.func21,Tryz.ntmps21
 go_wp2_with (first|(go_at_call 53;refine HS.out.mono ?_;rintro e w2 ⟨sb,sg,rfl,l1,l2,hS,hB2⟩;have hS:=hid hS;have hB2:=hid hB2)|(go_at_call 54;refine (HK.out _).mono ?_;rintro e w3 ⟨kb,km,rfl,hK,l3,l4,hB3⟩;have hK:=hid hK;have hB3:=hid hB3))
 go_ret2
 refine⟨w3.heap.size,sb,sg,kb,km,rfl,⟨z0a _ _,(hS.out.keep hB3.out).alloc _,hK.out.alloc _⟩,?_,?_⟩
 ·have:=hB2.out.size
  have:=hB3.out.size
  omega
 ·exact (z0d hB2.out hB3.out hB2.out.size).alloc (by have:=hB2.out.size;have:=hB3.out.size;omega) _
end Go.Proofs.YtgdmfledhhoedaaGreatDoor.T
