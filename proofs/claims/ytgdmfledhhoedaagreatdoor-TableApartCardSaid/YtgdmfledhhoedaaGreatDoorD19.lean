/- Part 19 of 27. -/
import Derived.Test.YtgdmfledhhoedaaGreatDoorD18
import Derived.Test.YtgdmfledhhoedaaGreatDoorD13
import Derived.Test.YtgdmfledhhoedaaGreatDoorD02
import Derived.Test.YtgdmfledhhoedaaGreatDoorD17
namespace Go.Proofs.YtgdmfledhhoedaaGreatDoor.T
set_option maxRecDepth 8000
open Go.ChangeShapes Go.WideShapes Go.ChangeAt Go.RowKit Go.Burg
open Go.Burg.Lk
variable {a i j k kb km sb sg t u:Nat} {w:World}
theorem own_lit1 {r:Int × Int} (h:w.heap[a]?=some (.cells #[.int .i64 r.1,.int .u32 r.2] 36 (0,0))):w.ownsRow 0 36 2 (.slice (some ⟨a,0,none⟩) [r].length 1) [r].length (z1z [r]) :=
 ⟨rfl,.inr ⟨a,1,_,rfl,Nat.zero_le _,h,Nat.le_refl _,by decide,rfl,rfl⟩⟩
variable {g gen gu slot tk:Int} {P:List (Cel PNd)} {L:List (RefK × Wd)} {q:PNd}
theorem planted_P (w:World) (h:z0s w t sb sg kb km P L tk) (hq:z0l P slot gen i q) :
 Calls Tryz.prog 37 #[.pointer (some ⟨t,0,none⟩),.agg #[.int .i64 slot,.int .u32 gen]] w fun e w'=>e=.returned (.bool q.planted)/\Below w.heap.size w w':=by
 obtain⟨l,h1,h2⟩:=h
 obtain⟨c,h3,h4,_⟩:=h2.live hq
 rw[<- h4]
 exact planted_at slot gen w h1 h3
theorem die_one {cap:Nat} {r:Int × Int} (h:z0s w t sb sg kb km P L tk) (h1:∃ i q,z0l P r.1 r.2 i q) (hc:w.heap[a]?=some (.cells #[.int .i64 r.1,.int .u32 r.2] 36 (0,0))) (hg:a≠sg) :
 Calls Tryz.prog 39 #[.pointer (some ⟨t,0,none⟩),.slice (some ⟨a,0,none⟩) 1 cap] w fun e w'=>e=.returned (.slice (some ⟨a,0,none⟩) 1 cap)/\z0s w' t sb sg kb km (dieAll P [r]) L tk/\Mod (·=sg) w w':=by
 refine die_at (W0:=[r]) w h rfl (by omega) (fun x hx=>?_) (fun k x hx=>?_) (lt_of_block hc) hg
 ·simp at hx
  subst hx
  exact h1
 ·have hk:k<1:=(List.getElem?_eq_some_iff.1 hx).1
  obtain rfl:k=0:=by omega
  cases hx
  exact⟨cell_of hc 0,cell_of hc 1⟩
variable {plu:Bool} {pt:ByteArray} {pj:Cel PNd} {Lk:List Kd}
set_option maxRecDepth 20000 in
set_option maxHeartbeats 8000000 in
theorem Put_grow {ir j2 iu jj ku:Nat} {l:List (Cel Nd)} {c v ptu:ByteArray} {s:SpotP} {r u0:Int × Int} {Lu:List Kd} {di diu:Bool} {pj2:Cel PNd} {kk:Kd} (w:World) (h:TreeAt w t sb sg kb km l L tk) (hR:Rel w l P) (hr:RoomsAt w) (hc:z2l c) (hv:v.size<=32) (hq:z0l P slot gen i q) (hp:q.planted=true) (hs:SeekW P c (slot,gen) 0 [] s) (hw:s.what=2)
 (h2:2<=s.way.length) (hrl:s.way[s.way.length - 1]?=some r) (hul:s.way[s.way.length - 1 - 1]?=some u0) (hqr:z0l P r.1 r.2 ir ⟨.z0k k pt Lk,false,di⟩) (hgr:(!(((kindOf (Lk.length+1):Nat):Int) == k))=true) (hqu:z0l P u0.1 u0.2 iu ⟨.z0k ku ptu Lu,plu,diu⟩)
 (hF:z2s P (j:Int)) (hj:P[j]?=some pj) (hjr:pj.room=true) (hF2:z2s (P.set j ⟨true,(⟨.leaf c v,false,false⟩:PNd),pj.gen+1⟩) (j2:Int)) (hj2:P[j2]?=some pj2) (hjr2:pj2.room=true) (hjj:j≠j2) (hrm:2<=z1j P)
 (hkk:Lu[jj]?=some kk) (hkf:z0p Lu kk.b=some kk) (hks:kk.s=r.1) (hkg:kk.g=r.2) (hkn:∀ i k,i<jj->Lu[i]?=some k->¬ (k.s=r.1/\k.g=r.2)) (hok2:(⟨kk.b,j2,pj2.gen+1⟩:Kd).ok)
 (hat:s.at_<256) (hok:(⟨s.at_,j,pj.gen+1⟩:Kd).ok) (hf:z0p Lk s.at_=none) (hl:Lk.length+1<=z0v (max (O.kOf false k (Lk.length+1)) k)) (h5:max (O.kOf false k (Lk.length+1)) k<=5) (h0:¬ TOwn sg km 0) (hmb:O.MayB (O.kOf false k (Lk.length+1)) (Lk.length+1) pt) (rr rr2:RefK) (hr1:rr.1.1=j) (hr2:rr.1.2=pj.gen+1) (hs1:rr2.1.1=j2) (hs2:rr2.1.2=pj2.gen+1) :
 Calls Tryz.prog 8 #[.pointer (some ⟨t,0,none⟩),.agg #[.int .i64 slot,.int .u32 gen],.string c,.string v] w fun e w'=>∃ a,e=.returned (.tuple #[.slice (some ⟨a,0,none⟩) 1 1,.int .i64 0])/\w'.heap[a]?=some (.cells #[.int .i64 r.1,.int .u32 r.2] 36 (0,0))/\w.heap.size<=a /\
  z0s w' t sb sg kb km (dieAll (((((P.set j ⟨true,(⟨.leaf c v,false,false⟩:PNd),pj.gen+1⟩)).set j2 ⟨true,(⟨.z0k (O.kOf false k (Lk.length+1)) pt (insK Lk (⟨s.at_,j,pj.gen+1⟩:Kd)),false,false⟩:PNd),pj2.gen+1⟩)).set iu ⟨true,⟨.z0k ku ptu (z1t Lu kk.b j2 (pj2.gen+1)),plu,diu⟩,u0.2⟩) [r]) (K.addL (K.addL L rr).2 rr2).2 tk/\Mod (TOwn sg km) w w':=by
 have hB0:Below w.heap.size w (w.alloc (.cells #[.int .i64 slot,.int .u32 gen] 36 (0,0))):=(Below.refl _ _).alloc (Nat.le_refl _) _
 have hjn:j≠ir:=fun e=>by obtain⟨p,h1,h3⟩:=hqr.noroom;rw[<- e,hj] at h1;cases h1;rw[hjr] at h3;cases h3
 have hjn2:j2≠ir:=fun e=>by obtain⟨p,h1,h3⟩:=hqr.noroom;rw[<- e,hj2] at h1;cases h1;rw[hjr2] at h3;cases h3
 have hju:j≠iu:=fun e=>by obtain⟨p,h1,h3⟩:=hqu.noroom;rw[<- e,hj] at h1;cases h1;rw[hjr] at h3;cases h3
 have hju2:j2≠iu:=fun e=>by obtain⟨p,h1,h3⟩:=hqu.noroom;rw[<- e,hj2] at h1;cases h1;rw[hjr2] at h3;cases h3
 have HQ1:Hid (z0l (P.set j ⟨true,(⟨.leaf c v,false,false⟩:PNd),pj.gen+1⟩) r.1 r.2 ir ⟨.z0k k pt Lk,false,di⟩):=hid (hqr.z1g hjn)
 have HQ2:Hid (z0l (((P.set j ⟨true,(⟨.leaf c v,false,false⟩:PNd),pj.gen+1⟩)).set j2 ⟨true,(⟨.z0k (O.kOf false k (Lk.length+1)) pt (insK Lk (⟨s.at_,j,pj.gen+1⟩:Kd)),false,false⟩:PNd),pj2.gen+1⟩) r.1 r.2 ir ⟨.z0k k pt Lk,false,di⟩):=hid (HQ1.out.z1g hjn2)
 have HQU2:Hid (z0l (((P.set j ⟨true,(⟨.leaf c v,false,false⟩:PNd),pj.gen+1⟩)).set j2 ⟨true,(⟨.z0k (O.kOf false k (Lk.length+1)) pt (insK Lk (⟨s.at_,j,pj.gen+1⟩:Kd)),false,false⟩:PNd),pj2.gen+1⟩) u0.1 u0.2 iu ⟨.z0k ku ptu Lu,plu,diu⟩):=hid ((hqu.z1g hju).z1g hju2)
 have hj2':((P.set j ⟨true,(⟨.leaf c v,false,false⟩:PNd),pj.gen+1⟩))[j2]?=some pj2:=by rw[List.getElem?_set_ne hjj];exact hj2
 have HFJ2:=hid (And.intro hF2 (And.intro hj2' (And.intro hjr2 (And.intro hs1 hs2))))
 have HFJ:=hid (And.intro hF (And.intro hj (And.intro hjr (And.intro hr1 hr2))))
 have HKK:=hid (And.intro hkk (And.intro hkf (And.intro hks (And.intro hkg (And.intro hkn hok2)))))
 have HUL:=hid hul
 have HK1:Hid (1<s.way.length):=hid (by omega)
 obtain⟨l1,ya,yc,za,zc,hTA,hRE,hLx,hNI,hMI⟩:=z0s.z0k (show z0s w t sb sg kb km P L tk from ⟨l,h,hR⟩) hqr
 have hzn:Lk.length<=1000:=by have:=hNI.room;omega
 have HPL:=hid (Plan_put2 (w.alloc (.cells #[.int .i64 slot,.int .u32 gen] 36 (0,0))) (h.keep hB0) (hR.keep hB0) (hr.keep hB0) hc hq hp hs hw 2 [r] 2 (fun w1 b g wc hb1 hsa hwc=>(bare_yes w1 ((hTA.keep hB0).keep hb1) ((hr.keep hB0).keep hb1) hzn hsa hwc h2 hrl hLx (by simpa using hgr)).mono (fun e w' h=>by
  obtain⟨a,e1,c1,l1,hb⟩:=h
  exact⟨_,_,e1,own_lit1 c1,hb⟩)))
 have HQR:=hid hqr
 have HNW:=hid (fun W hb0 w1 (hb:Below (World.heap W).size W w1)=>node_at r.1 r.2 w1 (hTA.keep ((show Below w.heap.size w W from hb0).trans (hb.mono hb0.size))) hLx)
 have HNI:=hid hNI
 have HMI:=hid hMI
 have HMB2:Hid (O.MayB (O.kOf false k (Lk.length+1)) (insK Lk (⟨s.at_,j,pj.gen+1⟩:Kd)).length pt):=hid (by rw[z2y];exact hmb)
 have HF:=hid hf
 have HOK:=hid hok
 have HQ:=hid (And.intro hl h5)
 have H0:Hid (¬ TOwn sg km 0/\¬ (0:Nat)=sg):=hid ⟨h0,fun e=>h0 (.inl e)⟩
 have HAT:=hid hat
 clear hqr hB0 hjn hjn2 hju hju2 hj2' hF2 hj2 hjr2 hs1 hs2 hF hj hjr hr1 hr2 hkk hkf hks hkg hkn hok2 hul hTA hRE hLx hNI hMI hzn hgr hqu hjj hmb hf hok hl h5 h0 hat
 have b0:=z0a w (.cells #[.int .i64 slot,.int .u32 gen] 36 (0,0))
 have hB:Below w.heap.size w (w.alloc (.cells #[.int .i64 slot,.int .u32 gen] 36 (0,0))):=(Below.refl _ _).alloc (Nat.le_refl _) _
 have dv:decide ((v.size:Int) > 32)=false:=by simp;omega
 have HWM:Hid (s.way.length<=100):=hid (by have h1:=SeekW.way_le hs;have h2:=hc.size;simp only[List.length_nil] at h1;omega)
 have HSKA:=hid (fun w1 (hb:Below w.heap.size w w1)=>Seek_at w1 (h.keep hb) (hR.keep hb) (hr.keep hb) hc hq hp hs)
 have hrml:z1j l=z1j P:=hR.z1j
 have HLT:=hid (And.intro (lt_of_block h.ht) (And.intro h.hs.blt (And.intro h.hs.glt h.hk.lt)))
 have HT:=hid h
 have HR:=hid hR
 have HRM:=hid hr
 have HWH:=hid hw
 have HS:=hid hs
 have HRL:=hid hrl
 have HTP:Hid (z0s w t sb sg kb km P L tk):=hid ⟨l,h,hR⟩
 have d6:decide (((z1j l:Nat):Int)<2)=false:=by rw[hrml];first|(simp;done)|(simp;omega)
 clear hrml hR hr hc hq hp hs hw hrl h
 go_enter Tryz.func8,Tryz.ntmps8
 go_wp2_with ((go_at_call 28;refine HPL.out.mono ?_;rintro e w2 ⟨g,wc,da,dc,rfl,how,hod,hb2⟩;unfold z2k;go_loud (have h0:=(hb2.block _ (lt_of_block b0)).trans b0;have hc2:=z0a w2 (.cells #[(.slice (some ⟨g,(s.way.length - 2) * 2,none⟩) 2 (wc - (s.way.length - 2))),.slice da 1 dc,.int .i64 2] 90 (0,0));have hbc:Below w2.heap.size w2 (w2.alloc (.cells #[(.slice (some ⟨g,(s.way.length - 2) * 2,none⟩) 2 (wc - (s.way.length - 2))),.slice da 1 dc,.int .i64 2] 90 (0,0))):=(Below.refl _ _).alloc (Nat.le_refl _) _;have hbw2:=hB.trans (hb2.mono hB.size);have HB2:=hid (hbw2.trans (hbc.mono hbw2.size));have HC2:=hid hc2;have H02:=hid ((hbc.block _ (lt_of_block h0)).trans h0);have HV0:=hid (show w.heap.size<=w2.heap.size from hbw2.size);clear h0 hc2 hbc hbw2 how hod hb2)))
 have HVB:=hid (show w.heap.size<=w2.heap.size by have:=lt_of_block H02.out;simp at this;omega)
 generalize hWA:w2.alloc (.cells #[(.slice (some ⟨g,(s.way.length - 2) * 2,none⟩) 2 (wc - (s.way.length - 2))),.slice da 1 dc,.int .i64 2] 90 (0,0))=WA at *
 generalize w2.heap.size=vb at *
 have HTA:=hid (HT.out.keep HB2.out)
 clear hWA
 refine z0g 10 (fun w1=>Below (WA).heap.size (WA) w1) (by kernel_rfl) (by kernel_rfl) (by kernel_rfl) ⟨rfl,rfl,rfl,Nat.le_refl _,fun _ _=>rfl⟩ ?_
 dsimp only[List.take]
 iterate 10
  refine Seq.cons (a':=?_) ?_ ?_ ?_
  rotate_left
  ·intro w1 hw1
   have t0:=cell_of (HTA.out.keep hw1).ht 0;have c2:=cell_of (z0b HC2.out hw1 (lt_of_block HC2.out)) 2
   go_wp2_with (go_at_call 29;refine (S.left_any _ (HTA.out.keep hw1).hs).mono ?_;rintro e w' ⟨rfl,hb⟩)
   refine⟨?_,by first|assumption|(simpa using z0d hw1 hb hw1.size)⟩
   exact rfl
  ·kernel_rfl
 refine SeqI.nil ?_
 intro _ w1 _ hw1
 dsimp only[List.drop]
 have hbw:=HB2.out.trans (hw1.mono HB2.out.size)
 have h02:=z0b H02.out hw1 (lt_of_block H02.out)
 have a0:=cell_of h02 0
 have a1:=cell_of h02 1
 have HSK:=hid (HSKA.out _ hbw)
 have HBW:=hid hbw
 have HC3:=hid (z0b HC2.out hw1 (lt_of_block HC2.out))
 clear hw1 h02 hbw HPL H02 HC2 HB2 HTA
 go_wp2_with (first|(go_at_call 30;refine HSK.out.mono ?_;rintro e w4 ⟨wa,wc4,rfl,how,hb4⟩;rw[HWH.out];go_loud (obtain⟨g4,rfl,lg,_⟩:=O.z0z (z2g how (Nat.zero_le _)) (SeekW.z1o HS.out);have hg4:=(show _<=g4 from (O.z2a how rfl).1);have hsp4:=z0a w4 (.cells #[.int .i64 2,.slice (some ⟨g4,0,none⟩) s.way.length wc4,.int .i64 s.at_,.int .i64 s.depth] 107 (0,0));have hbs:Below w4.heap.size w4 (w4.alloc (.cells #[.int .i64 2,.slice (some ⟨g4,0,none⟩) s.way.length wc4,.int .i64 s.at_,.int .i64 s.depth] 107 (0,0))):=(Below.refl _ _).alloc (Nat.le_refl _) _;have hSA:SpotAt (w4.alloc (.cells #[.int .i64 2,.slice (some ⟨g4,0,none⟩) s.way.length wc4,.int .i64 s.at_,.int .i64 s.depth] 107 (0,0))) w4.heap.size g4 wc4 s:=⟨(by rw[HWH.out];exact hsp4),z2g (O.z0h how (O.z0n (S:=fun _=>False) hbs) (fun _ _ h=>h)) (Nat.zero_le _),SeekW.z1o HS.out,HWM.out⟩;have HUP:=hid (up_at (k:=0) hSA (SeekW.z1o HS.out) (by simpa using HRL.out));have hb14:=hb4.trans (hbs.mono hb4.size);have HB4:=hid (HBW.out.trans (hb14.mono HBW.out.size));have HC4:=hid ((hb14.block _ (lt_of_block HC3.out)).trans HC3.out);have HSA:=hid hSA;have HG4:=hid (show w.heap.size<=g4 by have:=HBW.out.size;omega);have HL4:=hid (show w.heap.size<=w4.heap.size by have:=HBW.out.size;have:=hb4.size;omega);clear how hb4 lg hg4 hsp4 hbs hSA hb14))|(go_at_call 31;refine HUP.out.mono ?_;rintro e w5 ⟨rfl,hb5⟩;go_loud (have hr5:=z0a w5 (.cells #[.int .i64 r.1,.int .u32 r.2] 36 (0,0));have hbr:Below w5.heap.size w5 (w5.alloc (.cells #[.int .i64 r.1,.int .u32 r.2] 36 (0,0))):=(Below.refl _ _).alloc (Nat.le_refl _) _;have hb45:=hb5.trans (hbr.mono hb5.size);have HSP:=hid (HSA.out.keep hb45);have HC5:=hid ((hb45.block _ (lt_of_block HC4.out)).trans HC4.out);have R5:=hid hr5;have HBP:=hid (HB4.out.trans (hb45.mono HB4.out.size));have HL5:=hid (show w.heap.size<=w5.heap.size by have:=HB4.out.size;have:=hb5.size;omega);clear hr5 hbr hb45 hb5)))
 clear HUP HB4 HSA HSK HBW a0 a1 HC3 HC4
 generalize hWX:w5.alloc (.cells #[.int .i64 r.1,.int .u32 r.2] 36 (0,0))=W at *
 generalize w4.heap.size=sp at *
 generalize w5.heap.size=rb at *
 clear hWX
 have HNW:=hid (HNW.out W HBP.out)
 have HOK:=hid (NJOk.calm (W0:=W) (T:=102) (z:=#[.int .i64 0,.string ⟨#[]⟩,.string ⟨#[]⟩,.string ⟨#[]⟩,.slice none 0 0,.slice none 0 0]) (o:=#[.int .i64 k,.string ⟨#[]⟩,.string ⟨#[]⟩,.string pt,.slice ya Lk.length yc,.slice za Lk.length zc]) (dl:=fun _=>[]))
 refine z0r 7 [5] (fun xs=>[.pointer (some ⟨t,0,none⟩),.pointer (some ⟨t,0,none⟩),.pointer (some ⟨t,0,none⟩),.agg #[.int .i64 r.1,.int .u32 r.2],.agg #[.int .i64 k,.string ⟨#[]⟩,.string ⟨#[]⟩,.string pt,.slice ya Lk.length yc,.slice za Lk.length zc],xs 5,undef]) (NJ (fun _=>False) (fun _=>True) (fun _=>True) (fun _ _ _=>True) W 102 #[.int .i64 0,.string ⟨#[]⟩,.string ⟨#[]⟩,.string ⟨#[]⟩,.slice none 0 0,.slice none 0 0] (fun _=>#[.int .i64 k,.string ⟨#[]⟩,.string ⟨#[]⟩,.string pt,.slice ya Lk.length yc,.slice za Lk.length zc]) [] [] 99 5 6 [] [] (fun _=>[]) (fun _=>undef) (fun _ _=>undef)) (NJ.start trivial) (fun xs ys h=>by simp[h]) ?_ ?_
 ·dsimp only[List.take,z1c,OpT,z1s]
  (repeat' refine And.intro ?_ ?_)<;>first|refine .inl ⟨rfl,?_⟩|refine .inr ⟨rfl,?_⟩
  iterate 5
   ·intro D xs w1 hDk hwt hJ
    have hr:=((hJ.m.below (Nat.le_refl _) (fun _ _ e=>e)).block _ (lt_of_block R5.out)).trans R5.out;have n0:=cell_of hr 0;have n1:=cell_of hr 1;clear hr;have HND:=hid (HNW.out w1 (hJ.m.below (Nat.le_refl _) (fun _ _ e=>e)))
    have HJ:=hid hJ
    have HD:=hid hDk
    clear hDk hwt hJ
    go_wp2_with (go_at_call 32;refine HND.out.mono ?_;rintro e w2 ⟨rfl,hb2⟩)
    refine⟨by kernel_rfl,?_⟩
    intros
    exact NJ.calm HOK.out HJ.out HD.out (by first|exact Below.refl _ _|assumption)
  ·intro D xs w1 hDk hwt hJ
   have HJ:=hid hJ
   have HD:=hid hDk
   clear hDk hwt hJ
   go_wp2_with fail
   first|exact⟨_,by kernel_rfl,fun u hu=>by obtain rfl:=hu rfl;exact NJ.alloc HOK.out HJ.out HD.out⟩|exact⟨_,by kernel_rfl,NJ.alloc HOK.out HJ.out HD.out⟩
  ·intro D xs w1 hDk hwt hJ
   have hA:=hwt 5 (eM (by kernel_rfl))
   obtain⟨b0,hb0,eb0,hc0⟩:=hJ.a hA
   rw[eb0]
   have HEB:=hid eb0
   clear eb0
   rw[show D 6=false from hDk] at hc0
   simp only[cond_false] at hc0
   have q0:=cell_of hc0 0
   have q1:=cell_of hc0 1
   have q2:=cell_of hc0 2
   have q3:=cell_of hc0 3
   have q4:=cell_of hc0 4
   have q5:=cell_of hc0 5
   have qf:=z0e hc0
   have HC:=hid hc0
   clear hc0
   have HJ:=hid hJ
   have HD:=hid hDk
   clear hDk hwt hJ
   go_wp2_with fail
   obtain⟨m1,m2⟩:=(set6_mod _ _ _ _ _ _ HC.out)
   refine⟨by kernel_rfl,?_⟩;intros;exact NJ.store HOK.out HJ.out HD.out hA (fun k h=>by simp at h) HEB.out m2 m1
 intro D xs w5x hD hJ
 obtain⟨u,hu,eu,hc⟩:=hJ.a (hD 5 (by omega))
 rw[hD 6 (by omega)] at hc
 simp only[cond_true] at hc
 have HBu:=hid (hJ.m.below (Nat.le_refl _) (fun _ _ e=>e))
 have HOu:=hid hc
 have HLu:=hid hu
 dsimp only[List.take,z1s,List.drop]
 rw[eu]
 clear hD hJ eu hc hu HOK
 have HB5:=hid (HBP.out.trans (HBu.out.mono HBP.out.size))
 have R6:=hid ((HBu.out.block _ (lt_of_block R5.out)).trans R5.out)
 have C6:=hid ((HBu.out.block _ (lt_of_block HC5.out)).trans HC5.out)
 have HSP5:=hid (HSP.out.keep HBu.out)
 have HTK:=hid (take_leaf c v w5x (HTP.out.keep HB5.out) HFJ.out.1 HFJ.out.2.1 HFJ.out.2.2.1 rr HFJ.out.2.2.2.1 HFJ.out.2.2.2.2)
 have hlt:=HLT.out
 have hg4:=HG4.out
 have hl4:=HL4.out
 have hl5:=HL5.out
 have hlu:=HLu.out
 have hbs:=HBP.out.size
 have hvb:=HVB.out
 have HNT:Hid (¬ TOwn sg km sp/\¬ TOwn sg km g4/\¬ TOwn sg km rb/\¬ TOwn sg km vb/\¬ TOwn sg km u):=hid (by refine⟨?_,?_,?_,?_,?_⟩<;>rintro (e|e)<;>omega)
 have HU:Hid (¬ sp=u/\¬ g4=u/\¬ rb=u/\¬ vb=u/\w.heap.size<=u):=hid (by have:=lt_of_block R5.out;have:=lt_of_block HC5.out;have:=lt_of_block HSP.out.h;have:=HSP.out.glt;omega)
 clear hlt hg4 hl4 hl5 hlu hbs hvb
 have s0:=cell_of HSP5.out.h 0
 rw[HWH.out] at s0
 clear HNW R5 HC5 HSP HBP HVB
 go_wp2_with (go_at_call 34;refine HTK.out.mono ?_;rintro e w6 ⟨rfl,hT6,hM6⟩;go_loud (have HT6:=hid hT6;have HM6:=hid hM6;have hsp6:=HSP5.out.mod' hM6 HNT.out.1 HNT.out.2.1;have s0:∀ o,(w6.alloc o).cell? ⟨sp,0,none⟩=some (.int .i64 2):=(fun o=>by have hq:=cell_of (z0c (o':=o) hsp6.h) 0;rw[HWH.out] at hq;exact hq);clear hsp6 hT6 hM6))
 have hwr:IntKind.u8.wrap ((s.at_:Nat):Int)=((s.at_:Nat):Int):=by have:=HAT.out;rw[IntKind.wrap_u8];omega
 have h7:=z0a w6 (.cells #[.int .i64 j,.int .u32 (pj.gen+1)] 36 (0,0))
 have hb7:Below w6.heap.size w6 (w6.alloc (.cells #[.int .i64 j,.int .u32 (pj.gen+1)] 36 (0,0))):=(Below.refl _ _).alloc (Nat.le_refl _) _
 have hX7:Mod (TOwn sg km) w5x (w6.alloc (.cells #[.int .i64 j,.int .u32 (pj.gen+1)] 36 (0,0))):=HM6.out.alloc _
 have hM7:Mod (TOwn sg km) w (w6.alloc (.cells #[.int .i64 j,.int .u32 (pj.gen+1)] 36 (0,0))):=(Mod.z0j (S:=TOwn sg km) HB5.out).trans hX7 (fun _ _ h=>h)
 have HU7:=hid ((hX7.block u (lt_of_block HOu.out) HNT.out.2.2.2.2).trans HOu.out)
 have hlu:u<w6.heap.size:=by have:=lt_of_block HOu.out;have:=HM6.out.size;omega
 have hrb:rb<w6.heap.size:=by have:=lt_of_block R6.out;have:=HM6.out.size;omega
 have HT7:=hid (HT6.out.keep hb7)
 have HSP7:=hid (HSP5.out.mod' hX7 HNT.out.1 HNT.out.2.1)
 have R7:=hid ((hX7.block rb (lt_of_block R6.out) HNT.out.2.2.1).trans R6.out)
 have C7:=hid ((hX7.block vb (lt_of_block C6.out) HNT.out.2.2.2.1).trans C6.out)
 have HL7:Hid (¬ w6.heap.size=u/\¬ w6.heap.size=rb):=hid (by omega)
 have HM7:=hid hM7
 have H7:=hid h7
 have HR7:=hid (z1w HRM.out hM7 H0.out.1)
 have HN7:=hid (node_mod HNI.out hM7 HTP.out.noRow)
 clear hwr s0 HTK hlu hrb h7 hM7 hX7
 generalize hW7:w6.alloc (.cells #[.int .i64 j,.int .u32 (pj.gen+1)] 36 (0,0))=W7 at *
 generalize w6.heap.size=lf at *
 clear hb7 hW7 HT6 HM6 HOu HBu HSP5 R6 C6 HB5
 have hwr:IntKind.u8.wrap ((s.at_:Nat):Int)=((s.at_:Nat):Int):=by have:=HAT.out;rw[IntKind.wrap_u8];omega
 have hnu:∀ k,k=u->NoRow W7 k:=fun k e cs T fr hk=>by
  subst e
  rw[HU7.out] at hk
  cases hk
  exact⟨by decide,by decide⟩
 have hlt7:∀ x,x=t\/x=sb\/x=sg\/x=kb\/x=km->¬ x=u:=by have:=HLT.out;have:=HU.out;rintro x (rfl|rfl|rfl|rfl|rfl)<;>omega
 have HPM:=hid (fun (P:List (Cel PNd)) (L:List (RefK × Wd)) w1 (hT:z0s W7 t sb sg kb km P L tk) (hM:Mod (·=u) W7 w1)=>hT.mod hM hnu (hlt7 t (by simp)) (hlt7 sb (by simp)) (hlt7 sg (by simp)) (hlt7 kb (by simp)) (hlt7 km (by simp)))
 have HPL:=hid (fun w1 hM=>planted_P w1 (HPM.out _ _ w1 HT7.out hM) HQ1.out)
 have HNU:=hid hnu
 have hkd2:=O.kOf_ok (a:=false) (k:=k) (n:=Lk.length+1) (Nat.le_trans HQ.out.1 (roomOf_le _)) HN7.out.k1 HN7.out.k2
 have HN8:Hid ((insK Lk (⟨s.at_,j,pj.gen+1⟩:Kd)).length=Lk.length+1):=hid (z2y _ _)
 have hu0:¬ (0:Nat)=u:=by have:=HU.out.2.2.2.2;have:=HRM.out.lt;omega
 clear hnu hlt7
 refine z0r 15 [10,11,12,13] (fun xs=>[.agg #[.int .i64 k,.string ⟨#[]⟩,.string ⟨#[]⟩,.string pt,.slice ya Lk.length yc,.slice za Lk.length zc],.pointer (some ⟨sp,2,none⟩),.int .i64 s.at_,.int .u8 s.at_,.agg #[.int .i64 j,.int .u32 (pj.gen+1)],.pointer (some ⟨t,0,none⟩),.pointer (some ⟨t,0,none⟩),.pointer (some ⟨t,0,none⟩),.agg #[.int .i64 r.1,.int .u32 r.2],.bool false,xs 10,xs 11,xs 12,xs 13,undef]) (GJ 102 (TurnF (O.kOf false k (Lk.length+1)) pt (Lk.length+1) u (insK Lk (⟨s.at_,j,pj.gen+1⟩:Kd))) W7 u 10 14 [] [11,12,13] [(10,0)] (fun _=>undef) tdP #[.int .i64 k,.string ⟨#[]⟩,.string ⟨#[]⟩,.string pt,.slice ya Lk.length yc,.slice za Lk.length zc] (fun x=>match tupAt x 0 with | .agg cs=>cs|_=>#[])) ?h0 (fun xs ys h=>by simp[h]) ?hs ?hend
 case h0=>exact GJ.start HU7.out
 case hs =>
  dsimp only[List.take,z1c,OpT,z1s]
  (repeat' refine And.intro ?_ ?_)<;>first|refine .inl ⟨rfl,?_⟩|refine .inr ⟨rfl,?_⟩
  ·intro D xs w1 hDk hwt hJ
   have h14:D 14=false:=by
    cases e:D 14
    ·rfl
    ·have:=hJ.p 10 0 (by decide) (hJ.s e)
     rw[this] at hDk
     cases hDk
   have hc:=hJ.c
   rw[h14] at hc
   simp only[cond_false] at hc
   have q0:=cell_of hc 0;have q1:=cell_of hc 1;have q2:=cell_of hc 2;have q3:=cell_of hc 3;have q4:=cell_of hc 4;have q5:=cell_of hc 5;clear hc
   have HJ:=hid hJ
   clear hDk hwt hJ
   go_wp2_with fail
   refine⟨by kernel_rfl,?_⟩;(try intro _ _);exact GJ.calm z1a HJ.out (Below.refl _ _)
  iterate 8
   ·intro D xs w1 hDk hwt hJ
    have s2:=cell_of ((hJ.m.block _ (lt_of_block HSP7.out.h) HU.out.1).trans HSP7.out.h) 2
    have qc:=(hJ.m.block _ (lt_of_block H7.out) HL7.out.1).trans H7.out
    have q0:=cell_of qc 0
    have q1:=cell_of qc 1
    have qd:=(hJ.m.block _ (lt_of_block R7.out) HU.out.2.2.1).trans R7.out
    have n0:=cell_of qd 0
    have n1:=cell_of qd 1
    clear qc qd
    have HJ:=hid hJ
    clear hDk hwt hJ
    go_wp2_with fail
    refine⟨by kernel_rfl,?_⟩;(try intro _ _);exact GJ.calm z1a HJ.out (Below.refl _ _)
  ·intro D xs w1 hDk hwt hJ
   have HPL1:=hid (HPL.out w1 hJ.m)
   have HJ:=hid hJ
   clear hDk hwt hJ
   go_wp2_with (go_at_call 37;refine HPL1.out.mono ?_;rintro e w8 ⟨rfl,hb8⟩)
   refine⟨by kernel_rfl,?_⟩;(try intro _ _);exact GJ.calm z1a HJ.out (hb8)
  ·intro D xs w1 hDk hwt hJ
   have hD:D 10=false:=hDk
   have hNw:O.NodeIn w1 k pt ya Lk.length yc za Lk.length zc Lk:=node_mod HN7.out hJ.m HNU.out
   have HTN:=hid (O.Add_at s.at_ j (pj.gen+1) false HOK.out HF.out HQ.out.1 HQ.out.2 hNw (z1w HR7.out hJ.m hu0) HMI.out)
   have h14:D 14=false:=by
    cases e:D 14
    ·rfl
    ·rw[hJ.s e] at hD;cases hD
   have hc:=hJ.c
   rw[h14] at hc
   simp only[cond_false] at hc
   have HC:=hid hc
   have HJ:=hid hJ
   have HWT:=hid hwt
   clear hDk hwt hJ hc hNw
   go_wp2_with (go_at_call 36;refine HTN.out.mono ?_;rintro e w8 ⟨cs,rfl,hG,hb8⟩)
   obtain⟨k2,k3,k4⟩:=hkd2 (fun e=>by cases e)
   obtain⟨ya',yc',za',zc',rfl,hN8⟩:=hG.node k2 k3 HN7.out.p (by rw[HN8.out];exact k4) (insK_rise HN7.out.rise HF.out) (O.insK_ok HN7.out.ok HOK.out)
   rw[HN8.out] at hN8
   try rw[HN8.out]
   have hF8:=turnF_of hN8 ((hb8.block _ (lt_of_block HC.out)).trans HC.out)
   exact⟨_,by kernel_rfl,fun q hq=>by obtain rfl:=hq rfl;exact GJ.call HJ.out hD hF8 hb8 (fun j' h=>by simp at h;subst h;exact HWT.out 0 (eM (by kernel_rfl)))⟩
  ·intro D xs w1 hDk hwt hJ
   have h10:D 10=true:=hwt 10 (eM (by kernel_rfl))
   obtain⟨ya',yc',za',zc',ea,_⟩:=hJ.l h10
   have HEA:=hid ea
   rw[ea]
   have HJ:=hid hJ
   try clear e9
   clear hDk hwt hJ
   try clear ea
   go_wp2_with fail
   first|exact⟨_,by kernel_rfl,fun q hq=>by obtain rfl:=hq rfl;exact GJ.dep HJ.out h10 (by rw[HEA.out])⟩|exact⟨_,by kernel_rfl,GJ.dep HJ.out h10 (by rw[HEA.out])⟩
  iterate 2
   ·intro D xs w1 hDk hwt hJ
    obtain⟨h10,e8⟩:=hJ.e 11 (hwt 11 (eM (by kernel_rfl))) (by decide)
    obtain⟨ya',yc',za',zc',ea,_⟩:=hJ.l h10
    have e9:xs 11=.tuple #[.agg #[.int .i64 (O.kOf false k (Lk.length+1)),.string ⟨#[]⟩,.string ⟨#[]⟩,.string pt,.slice ya' (Lk.length+1) yc',.slice za' (Lk.length+1) zc'],.int .i64 0]:=by rw[e8,ea];rfl
    clear e8
    have HEA:=hid ea
    rw[e9]
    have HJ:=hid hJ
    try clear e9
    clear hDk hwt hJ
    try clear ea
    go_wp2_with fail
    first|exact⟨_,by kernel_rfl,fun q hq=>by obtain rfl:=hq rfl;exact GJ.dep HJ.out h10 (by rw[HEA.out])⟩|exact⟨_,by kernel_rfl,GJ.dep HJ.out h10 (by rw[HEA.out])⟩
  ·intro D xs w1 hDk hwt hJ
   have hD:D 14=false:=hDk
   obtain⟨h10,e8⟩:=hJ.e 12 (hwt 12 (eM (by kernel_rfl))) (by decide)
   obtain⟨ya',yc',za',zc',ea,_⟩:=hJ.l h10
   have e9:xs 12=.agg #[.int .i64 (O.kOf false k (Lk.length+1)),.string ⟨#[]⟩,.string ⟨#[]⟩,.string pt,.slice ya' (Lk.length+1) yc',.slice za' (Lk.length+1) zc']:=by rw[e8,ea];rfl
   have hc:=hJ.c
   rw[hD] at hc
   simp only[cond_false] at hc
   have HC:=hid hc
   have q0:=cell_of hc 0;have q1:=cell_of hc 1;have q2:=cell_of hc 2;have q3:=cell_of hc 3;have q4:=cell_of hc 4;have q5:=cell_of hc 5;clear hc
   have qf:=z0e HC.out
   have HJ:=hid hJ
   have HEA:=hid ea
   rw[e9]
   clear hDk hwt hJ ea e8 e9
   go_wp2_with fail
   obtain⟨m1,m2⟩:=O.set6_at (.int .i64 (O.kOf false k (Lk.length+1))) (.string ⟨#[]⟩) (.string ⟨#[]⟩) (.string pt) (.slice ya' (Lk.length+1) yc') (.slice za' (Lk.length+1) zc') HC.out
   exact⟨by kernel_rfl,fun q=>GJ.store z1a HJ.out h10 m2 (by rw[HEA.out];exact m1)⟩
 case hend =>
  intro D xs w8 hD hJ
  obtain⟨ya',yc',za',zc',ea,hN8,_,_⟩:=hJ.l (hD 10 (by omega))
  have hc:=hJ.c
  rw[hD 14 (by omega),ea] at hc
  simp only[cond_true,tupAt] at hc
  have hc2:w8.heap[u]?=some (.cells #[.int .i64 (O.kOf false k (Lk.length+1)),.string ⟨#[]⟩,.string ⟨#[]⟩,.string pt,.slice ya' (Lk.length+1) yc',.slice za' (Lk.length+1) zc'] 102 (0,0)):=hc
  have hM1:=hJ.m
  have HT8:=hid (HPM.out _ _ w8 HT7.out hM1)
  have HU8:=hid hc2
  have HN9:=hid hN8
  have HM8:Hid (Mod (TOwn sg km) w w8):=hid (HM7.out.trans hM1 (fun i hi e=>by have e2:i=u:=e;have:=HU.out;omega))
  have HR8:=hid (z1w HR7.out hM1 hu0)
  have HSP8:=hid (HSP7.out.mod' hM1 HU.out.1 HU.out.2.1)
  have R8:=hid ((hM1.block _ (lt_of_block R7.out) HU.out.2.2.1).trans R7.out)
  have hc8:=(hM1.block _ (lt_of_block C7.out) HU.out.2.2.2.1).trans C7.out
  have c1:=cell_of hc8 1
  have HNT8:Hid (¬ TOwn sg km u/\¬ TOwn sg km rb/\¬ TOwn sg km sp/\¬ TOwn sg km g4):=hid ⟨HNT.out.2.2.2.2,HNT.out.2.2.1,HNT.out.1,HNT.out.2.1⟩
  clear hD hJ ea hc hc2 hM1 hN8 hc8 HSP7 R7 C7 HT7 HU7 HN7 H7 HR7 HM7 HNU HPM HPL hkd2 hu0
  dsimp only[List.take,z1s,List.drop]
  go_wp2_with fail
  clear c1
  have hl8:=HM8.out.size
  have hlt:=HLT.out
  have HLT8:Hid (t<w8.heap.size/\sb<w8.heap.size/\sg<w8.heap.size/\kb<w8.heap.size/\km<w8.heap.size):=hid (by omega)
  obtain⟨l8,hTA8,hRE8⟩:=HT8.out
  obtain⟨cj,hcj,_,hcg,hcr⟩:=hRE8.cell HFJ2.out.2.1
  have HCJ:=hid (And.intro hcj (And.intro hcg (hcr.trans HFJ2.out.2.2.1)))
  have HRE8:=hid hRE8
  have kp:∀ (l:List (Cel Nd)) (L:List (RefK × Wd)) (w1 w2:World) (u':Nat),w8.heap.size<=u'->Mod (·=u') w1 w2->TreeAt w1 t sb sg kb km l L tk->TreeAt w2 t sb sg kb km l L tk:=fun l L w1 w2 u' hu hM h=>by
   have hl:=HLT8.out
   exact h.mod hM (show ¬ t=u' by omega) (show ¬ sb=u' by omega) (show ¬ sg=u' by omega) (show ¬ kb=u' by omega) (show ¬ km=u' by omega)
  have hok:NJOk (TOwn sg km) (fun w1=>TreeAt w1 t sb sg kb km l8 (K.addL L rr).2 tk) (fun w1=>TreeAt w1 t sb sg kb km (l8.set j2 (⟨true,(⟨(O.kOf false k (Lk.length+1)),⟨#[]⟩,⟨#[]⟩,pt,⟨ya',Lk.length+1,yc'⟩,⟨za',Lk.length+1,zc'⟩,false,false⟩:Nd),pj2.gen+1⟩:Cel Nd)) (K.addL (K.addL L rr).2 rr2).2 tk) (fun _ _ _=>True) w8 36 #[.int .i64 0,.int .u32 0] (fun _=>#[.int .i64 j2,.int .u32 (pj2.gen+1)]) [] (fun _=>[]) (fun _ _=>undef) :=
   ⟨fun w w' h hb=>h.keep hb,fun w w' h hb=>h.keep hb,fun _ _ _ _ _ _=>trivial,fun w w' u' hu _ hM h=>kp _ _ _ _ _ hu hM h,fun w w' u' hu _ hM h=>kp _ _ _ _ _ hu hM h,fun _ _ _ _ _ _ _ _ _=>trivial,fun _ _ _ _ _ _=>trivial,fun k e=>by have:=HLT8.out;rcases e with e|e<;>omega,fun _ _ _=>rfl,fun _ _ _ _=>rfl⟩
  have HOK:=hid hok
  clear hok kp hl8 hlt hcj hcg hcr hRE8
  refine z0r 11 [8] (fun xs=>[.pointer (some ⟨t,0,none⟩),.pointer (some ⟨t,0,none⟩),.pointer (some ⟨t,0,none⟩),.agg #[.int .i64 (O.kOf false k (Lk.length+1)),.string ⟨#[]⟩,.string ⟨#[]⟩,.string pt,.slice ya' (Lk.length+1) yc',.slice za' (Lk.length+1) zc'],.tuple #[.agg #[.int .i64 j2,.int .u32 (pj2.gen+1)],.int .i64 0],.tuple #[.agg #[.int .i64 j2,.int .u32 (pj2.gen+1)],.int .i64 0],.agg #[.int .i64 j2,.int .u32 (pj2.gen+1)],.int .i64 0,xs 8,undef,.int .i64 0]) (NJ (TOwn sg km) (fun w1=>TreeAt w1 t sb sg kb km l8 (K.addL L rr).2 tk) (fun w1=>TreeAt w1 t sb sg kb km (l8.set j2 (⟨true,(⟨(O.kOf false k (Lk.length+1)),⟨#[]⟩,⟨#[]⟩,pt,⟨ya',Lk.length+1,yc'⟩,⟨za',Lk.length+1,zc'⟩,false,false⟩:Nd),pj2.gen+1⟩:Cel Nd)) (K.addL (K.addL L rr).2 rr2).2 tk) (fun _ _ _=>True) w8 36 #[.int .i64 0,.int .u32 0] (fun _=>#[.int .i64 j2,.int .u32 (pj2.gen+1)]) [] [] 4 8 9 [] [] (fun _=>[]) (fun _=>undef) (fun _ _=>undef)) (NJ.start (hTA8.keep (Below.refl _ _).drew)) (fun xs ys h=>by simp[h]) ?_ ?_
  ·clear hTA8
   dsimp only[List.take,z1c,OpT,z1s]
   (repeat' refine And.intro ?_ ?_)<;>first|refine .inl ⟨rfl,?_⟩|refine .inr ⟨rfl,?_⟩
   iterate 4
    ·intro D xs w1 hDk hwt hJ
     have hu:=(hJ.m.block u (lt_of_block HU8.out) HNT8.out.1).trans HU8.out;have n0:=cell_of hu 0;have n1:=cell_of hu 1;have n2:=cell_of hu 2;have n3:=cell_of hu 3;have n4:=cell_of hu 4;have n5:=cell_of hu 5;clear hu
     have HJ:=hid hJ
     have HD:=hid hDk
     clear hDk hwt hJ
     go_wp2_with (fail)
     refine⟨by kernel_rfl,?_⟩
     intros
     exact NJ.calm HOK.out HJ.out HD.out (by first|exact Below.refl _ _|assumption)
   ·intro D xs w1 hDk hwt hJ
    have hp:=hJ.p
    rw[show D 4=false from hDk] at hp
    simp only[cond_false] at hp
    have htk:=take_at (O.kOf false k (Lk.length+1)) ⟨#[]⟩ ⟨#[]⟩ pt ya' za' (Lk.length+1) yc' (Lk.length+1) zc' false w1 hp (HRE8.out.first HFJ2.out.1) HCJ.out.1 HCJ.out.2.2 rr2 HFJ2.out.2.2.2.1 (by rw[HFJ2.out.2.2.2.2,HCJ.out.2.1])
    rw[HCJ.out.2.1] at htk
    have HTK:=hid htk
    clear hp htk
    have HJ:=hid hJ
    have HD:=hid hDk
    clear hDk hwt hJ
    go_wp2_with (go_at_call 34;refine HTK.out.mono ?_;rintro e w2 ⟨rfl,hT2,hM2⟩)
    refine⟨by kernel_rfl,?_⟩;intros;exact NJ.turn HOK.out HJ.out HD.out hT2 hM2
   iterate 3
    ·intro D xs w1 hDk hwt hJ
     skip
     have HJ:=hid hJ
     have HD:=hid hDk
     clear hDk hwt hJ
     go_wp2_with (fail)
     refine⟨by kernel_rfl,?_⟩
     intros
     exact NJ.calm HOK.out HJ.out HD.out (by first|exact Below.refl _ _|assumption)
   ·intro D xs w1 hDk hwt hJ
    have HJ:=hid hJ
    have HD:=hid hDk
    clear hDk hwt hJ
    go_wp2_with fail
    first|exact⟨_,by kernel_rfl,fun u hu=>by obtain rfl:=hu rfl;exact NJ.alloc HOK.out HJ.out HD.out⟩|exact⟨_,by kernel_rfl,NJ.alloc HOK.out HJ.out HD.out⟩
   ·intro D xs w1 hDk hwt hJ
    have hA:=hwt 8 (eM (by kernel_rfl))
    obtain⟨b0,hb0,eb0,hc0⟩:=hJ.a hA
    rw[eb0]
    have HEB:=hid eb0
    clear eb0
    rw[show D 9=false from hDk] at hc0
    simp only[cond_false] at hc0
    have q0:=cell_of hc0 0
    have q1:=cell_of hc0 1
    have qf:=z0e hc0
    have HC:=hid hc0
    clear hc0
    have HJ:=hid hJ
    have HD:=hid hDk
    clear hDk hwt hJ
    go_wp2_with fail
    obtain⟨m1,m2⟩:=set2_mod (v:=.int .i64 j2) (v':=.int .u32 (pj2.gen+1)) HC.out
    refine⟨by kernel_rfl,?_⟩;intros;exact NJ.store HOK.out HJ.out HD.out hA (fun k h=>by simp at h) HEB.out m2 m1
   ·intro D xs w1 hDk hwt hJ
    skip
    have HJ:=hid hJ
    have HD:=hid hDk
    clear hDk hwt hJ
    go_wp2_with (fail)
    refine⟨by kernel_rfl,?_⟩
    intros
    exact NJ.calm HOK.out HJ.out HD.out (by first|exact Below.refl _ _|assumption)
  intro D xs wA hD hJ
  have hp:=hJ.p
  rw[hD 4 (by omega)] at hp
  simp only[cond_true] at hp
  obtain⟨xb,hxb,exb,hxc⟩:=hJ.a (hD 8 (by omega))
  rw[hD 9 (by omega)] at hxc
  simp only[cond_true] at hxc
  have hM:=hJ.m
  have hN10:=node_mod HN9.out hM (fun k hk=>HT8.out.noRow k hk)
  have HPA:Hid (z0s wA t sb sg kb km (((P.set j ⟨true,(⟨.leaf c v,false,false⟩:PNd),pj.gen+1⟩)).set j2 ⟨true,(⟨.z0k (O.kOf false k (Lk.length+1)) pt (insK Lk (⟨s.at_,j,pj.gen+1⟩:Kd)),false,false⟩:PNd),pj2.gen+1⟩) (K.addL (K.addL L rr).2 rr2).2 tk):=hid ⟨_,hp,Rel.set (x:=(⟨(O.kOf false k (Lk.length+1)),⟨#[]⟩,⟨#[]⟩,pt,⟨ya',Lk.length+1,yc'⟩,⟨za',Lk.length+1,zc'⟩,false,false⟩:Nd)) (q:=(⟨.z0k (O.kOf false k (Lk.length+1)) pt (insK Lk (⟨s.at_,j,pj.gen+1⟩:Kd)),false,false⟩:PNd)) (HRE8.out.mod hM (fun k hk=>HT8.out.noRow k hk)) true (fun _=>⟨rfl,rfl,rfl,rfl,rfl,rfl,hN10,HMB2.out⟩)⟩
  have HSPA:=hid (HSP8.out.mod' hM HNT8.out.2.2.1 HNT8.out.2.2.2)
  have RA:=hid ((hM.block rb (lt_of_block R8.out) HNT8.out.2.1).trans R8.out)
  have XA:Hid (wA.heap[xb]?=some (.cells #[.int .i64 j2,.int .u32 (pj2.gen+1)] 36 (0,0))):=hid hxc
  have HRA:=hid (z1w HR8.out hM H0.out.1)
  have HMA:=hid (HM8.out.trans hM (fun _ _ h=>h))
  have HNS:Hid (¬ rb=sg/\¬ xb=sg/\¬ sp=sg/\¬ g4=sg):=hid ⟨fun e=>HNT8.out.2.1 (.inl e),by have:=HLT8.out;omega,fun e=>HNT8.out.2.2.1 (.inl e),fun e=>HNT8.out.2.2.2 (.inl e)⟩
  have HLA:Hid (t<wA.heap.size/\sb<wA.heap.size/\sg<wA.heap.size/\kb<wA.heap.size/\km<wA.heap.size):=hid (by have:=HLT8.out;have:=hM.size;omega)
  dsimp only[List.take,z1s,List.drop]
  rw[exb]
  clear hD hJ hp exb hxc hM hN10 hxb hTA8 HOK HSP8 R8 HR8 HM8 HT8 HU8
  go_wp2_with fail
  refine z0f 7 (Turn 6 (KidJ wA t sb sg kb km (((P.set j ⟨true,(⟨.leaf c v,false,false⟩:PNd),pj.gen+1⟩)).set j2 ⟨true,(⟨.z0k (O.kOf false k (Lk.length+1)) pt (insK Lk (⟨s.at_,j,pj.gen+1⟩:Kd)),false,false⟩:PNd),pj2.gen+1⟩) (K.addL (K.addL L rr).2 rr2).2 tk) (KidJ wA t sb sg kb km (((((P.set j ⟨true,(⟨.leaf c v,false,false⟩:PNd),pj.gen+1⟩)).set j2 ⟨true,(⟨.z0k (O.kOf false k (Lk.length+1)) pt (insK Lk (⟨s.at_,j,pj.gen+1⟩:Kd)),false,false⟩:PNd),pj2.gen+1⟩)).set iu ⟨true,⟨.z0k ku ptu (z1t Lu kk.b j2 (pj2.gen+1)),plu,diu⟩,u0.2⟩) (K.addL (K.addL L rr).2 rr2).2 tk)) (by kernel_rfl) (by kernel_rfl) (by kernel_rfl) (Turn.start ⟨(Mod.refl (·=sg) wA).drew,HPA.out.keep (Below.refl _ _).drew⟩) ?_
  dsimp only[List.take]
  iterate 6
   refine Seq.calm (a':=?_) (by decide) ?_ ?_ ?_
   rotate_left
   ·intro w1 hw1
    have hM:Mod (·=sg) wA w1:=hw1.elim KidJ.m KidJ.m;have n0:=cell_of ((hM.block rb (lt_of_block RA.out) HNS.out.1).trans RA.out) 0;have n1:=cell_of ((hM.block rb (lt_of_block RA.out) HNS.out.1).trans RA.out) 1;have m0:=cell_of ((hM.block xb (lt_of_block XA.out) HNS.out.2.1).trans XA.out) 0;have m1:=cell_of ((hM.block xb (lt_of_block XA.out) HNS.out.2.1).trans XA.out) 1;have HUX:=hid (up_at (k:=1) (HSPA.out.mod' hM HNS.out.2.2.1 HNS.out.2.2.2) HK1.out HUL.out);clear hM
    go_wp2_with (go_at_call 31;refine HUX.out.mono ?_;rintro e w' ⟨rfl,hb⟩)
    first|(refine⟨?_,id,id⟩;exact rfl)|(refine⟨?_,(fun h=>KidJ.keep h hb),(fun h=>KidJ.keep h hb)⟩;exact rfl)
   ·kernel_rfl
  refine Seq.turn (a':=?_) ?_ ?_ ?_
  rotate_left
  ·intro w1 hw1
   have HM:=hid hw1.m
   have HTT:=hid hw1.t
   have HRMX:=hid (z1w HRA.out hw1.m H0.out.2)
   clear hw1
   go_wp2_with (go_at_call 38;refine (kid_P u0.1 u0.2 r.1 r.2 j2 (pj2.gen+1) w1 HTT.out HRMX.out HQU2.out HKK.out.1 HKK.out.2.1 HKK.out.2.2.1 HKK.out.2.2.2.1 HKK.out.2.2.2.2.1 HKK.out.2.2.2.2.2).mono ?_;rintro e w2 ⟨rfl,hT,hX⟩)
   refine⟨?_,HM.out.trans hX (fun _ _ h=>h),hT⟩
   exact rfl
  ·kernel_rfl
  iterate 0
   refine Seq.calm (a':=?_) (by decide) ?_ ?_ ?_
   rotate_left
   ·intro w1 hw1
    have hM:Mod (·=sg) wA w1:=hw1.elim KidJ.m KidJ.m;have n0:=cell_of ((hM.block rb (lt_of_block RA.out) HNS.out.1).trans RA.out) 0;have n1:=cell_of ((hM.block rb (lt_of_block RA.out) HNS.out.1).trans RA.out) 1;have m0:=cell_of ((hM.block xb (lt_of_block XA.out) HNS.out.2.1).trans XA.out) 0;have m1:=cell_of ((hM.block xb (lt_of_block XA.out) HNS.out.2.1).trans XA.out) 1;have HUX:=hid (up_at (k:=1) (HSPA.out.mod' hM HNS.out.2.2.1 HNS.out.2.2.2) HK1.out HUL.out);clear hM
    go_wp2_with (go_at_call 31;refine HUX.out.mono ?_;rintro e w' ⟨rfl,hb⟩)
    first|(refine⟨?_,id,id⟩;exact rfl)|(refine⟨?_,(fun h=>KidJ.keep h hb),(fun h=>KidJ.keep h hb)⟩;exact rfl)
   ·kernel_rfl
  refine SeqI.nil ?_
  intro D w1 hD hI
  replace hI:=hI.done (hD 6 (by omega))
  clear hD
  dsimp only[List.drop]
  obtain⟨wB,hwB⟩:∃ wB,wB=w1:=⟨_,rfl⟩
  subst hwB
  have HJB:=hid hI
  have RB:=hid ((hI.m.block rb (lt_of_block RA.out) HNS.out.1).trans RA.out)
  have HNSB:Hid (¬ rb=sg):=hid HNS.out.1
  have HLB:Hid (t<wB.heap.size/\sb<wB.heap.size/\sg<wB.heap.size/\kb<wB.heap.size/\km<wB.heap.size):=hid (by have:=HLA.out;have:=hI.m.size;omega)
  have HLR:Hid (∃ i q,z0l (((((P.set j ⟨true,(⟨.leaf c v,false,false⟩:PNd),pj.gen+1⟩)).set j2 ⟨true,(⟨.z0k (O.kOf false k (Lk.length+1)) pt (insK Lk (⟨s.at_,j,pj.gen+1⟩:Kd)),false,false⟩:PNd),pj2.gen+1⟩)).set iu ⟨true,⟨.z0k ku ptu (z1t Lu kk.b j2 (pj2.gen+1)),plu,diu⟩,u0.2⟩) r.1 r.2 i q):=hid (z0l.set_any HQ2.out HQU2.out _)
  have hTB:=hI.t
  clear hI RA XA HSPA
  go_wp2_with fail
  have hok:NJOk (·=sg) (fun w1=>z0s w1 t sb sg kb km (((((P.set j ⟨true,(⟨.leaf c v,false,false⟩:PNd),pj.gen+1⟩)).set j2 ⟨true,(⟨.z0k (O.kOf false k (Lk.length+1)) pt (insK Lk (⟨s.at_,j,pj.gen+1⟩:Kd)),false,false⟩:PNd),pj2.gen+1⟩)).set iu ⟨true,⟨.z0k ku ptu (z1t Lu kk.b j2 (pj2.gen+1)),plu,diu⟩,u0.2⟩) (K.addL (K.addL L rr).2 rr2).2 tk) (fun w1=>z0s w1 t sb sg kb km (dieAll (((((P.set j ⟨true,(⟨.leaf c v,false,false⟩:PNd),pj.gen+1⟩)).set j2 ⟨true,(⟨.z0k (O.kOf false k (Lk.length+1)) pt (insK Lk (⟨s.at_,j,pj.gen+1⟩:Kd)),false,false⟩:PNd),pj2.gen+1⟩)).set iu ⟨true,⟨.z0k ku ptu (z1t Lu kk.b j2 (pj2.gen+1)),plu,diu⟩,u0.2⟩) [r]) (K.addL (K.addL L rr).2 rr2).2 tk) (fun (_:Nat) (w:World) (v:Value)=>∃ a,v=.slice (some ⟨a,0,none⟩) 1 1/\wB.heap.size<=a/\w.heap[a]?=some (.cells #[.int .i64 r.1,.int .u32 r.2] 36 (0,0))) wB 90 #[] (fun _=>#[]) [] (fun _=>[5]) (fun _ xs=>xs 5):=by
   have hl:=HLB.out
   have nr:∀ (w1:World) (u' k:Nat),w1.heap[u']?=some (.cells #[] 90 (0,0))->k=u'->NoRow w1 k:=fun w1 u' k hu e cs T fr hk=>by
    subst e
    rw[hu] at hk
    cases hk
    exact⟨by decide,by decide⟩
   refine⟨fun w w' h hb=>h.keep hb,fun w w' h hb=>h.keep hb,?_,?_,?_,?_,?_,fun k e=>by omega,fun _ _ _=>rfl,fun j xs ys h=>h 5 (by simp)⟩
   ·rintro j w w' v ⟨a,h1,h2,h3⟩ hb
    exact⟨a,h1,h2,(hb.block a (lt_of_block h3)).trans h3⟩
   ·intro w w' u' hu hc hM h
    exact h.mod hM (fun k e=>nr w u' k hc e) (show ¬ t=u' by omega) (show ¬ sb=u' by omega) (show ¬ sg=u' by omega) (show ¬ kb=u' by omega) (show ¬ km=u' by omega)
   ·intro w w' u' hu hc hM h
    exact h.mod hM (fun k e=>nr w u' k hc e) (show ¬ t=u' by omega) (show ¬ sb=u' by omega) (show ¬ sg=u' by omega) (show ¬ kb=u' by omega) (show ¬ km=u' by omega)
   ·rintro j w w' u' v hu hc hM ⟨a,h1,h2,h3⟩
    exact⟨a,h1,h2,(hM.block a (lt_of_block h3) (fun e=>by have e2:a=u':=e;subst e2;rw[h3] at hc;cases hc)).trans h3⟩
   ·rintro j w w' v hM ⟨a,h1,h2,h3⟩
    exact⟨a,h1,h2,(hM.block a (lt_of_block h3) (show ¬ a=sg by omega)).trans h3⟩
  have HOK:=hid hok
  clear hok
  refine z0r 8 [4,5,6] (fun xs=>[.pointer (some ⟨t,0,none⟩),.pointer (some ⟨t,0,none⟩),.pointer (some ⟨t,0,none⟩),.agg #[.int .i64 r.1,.int .u32 r.2],xs 4,xs 5,xs 6,.int .i64 0]) (NJ (·=sg) (fun w1=>z0s w1 t sb sg kb km (((((P.set j ⟨true,(⟨.leaf c v,false,false⟩:PNd),pj.gen+1⟩)).set j2 ⟨true,(⟨.z0k (O.kOf false k (Lk.length+1)) pt (insK Lk (⟨s.at_,j,pj.gen+1⟩:Kd)),false,false⟩:PNd),pj2.gen+1⟩)).set iu ⟨true,⟨.z0k ku ptu (z1t Lu kk.b j2 (pj2.gen+1)),plu,diu⟩,u0.2⟩) (K.addL (K.addL L rr).2 rr2).2 tk) (fun w1=>z0s w1 t sb sg kb km (dieAll (((((P.set j ⟨true,(⟨.leaf c v,false,false⟩:PNd),pj.gen+1⟩)).set j2 ⟨true,(⟨.z0k (O.kOf false k (Lk.length+1)) pt (insK Lk (⟨s.at_,j,pj.gen+1⟩:Kd)),false,false⟩:PNd),pj2.gen+1⟩)).set iu ⟨true,⟨.z0k ku ptu (z1t Lu kk.b j2 (pj2.gen+1)),plu,diu⟩,u0.2⟩) [r]) (K.addL (K.addL L rr).2 rr2).2 tk) (fun (_:Nat) (w:World) (v:Value)=>∃ a,v=.slice (some ⟨a,0,none⟩) 1 1/\wB.heap.size<=a/\w.heap[a]?=some (.cells #[.int .i64 r.1,.int .u32 r.2] 36 (0,0))) wB 90 #[] (fun _=>#[]) [] [4,5] 5 98 97 [] [6] (fun _=>[5]) (fun _=>undef) (fun _ xs=>xs 5)) (NJ.start (hTB.keep (Below.refl _ _).drew)) (fun xs ys h=>by simp[h]) ?_ ?_
  ·clear hTB
   dsimp only[List.take,z1c,OpT,z1s]
   (repeat' refine And.intro ?_ ?_)<;>first|refine .inl ⟨rfl,?_⟩|refine .inr ⟨rfl,?_⟩
   iterate 4
    ·intro D xs w1 hDk hwt hJ
     have hr:=(hJ.m.block rb (lt_of_block RB.out) HNSB.out).trans RB.out;have n0:=cell_of hr 0;have n1:=cell_of hr 1;clear hr
     have HJ:=hid hJ
     have HD:=hid hDk
     clear hDk hwt hJ
     go_wp2_with (fail)
     refine⟨by kernel_rfl,?_⟩
     intros
     exact NJ.calm HOK.out HJ.out HD.out (by first|exact Below.refl _ _|assumption)
   ·intro D xs w1 hDk hwt hJ
    have hsz:=hJ.m.size
    have hnb:=z0a w1 (.cells #[.int .i64 r.1,.int .u32 r.2] 36 (0,0))
    have hbl1:Below w1.heap.size w1 (w1.alloc (.cells #[.int .i64 r.1,.int .u32 r.2] 36 (0,0))):=(Below.refl _ _).alloc (Nat.le_refl _) _
    have HJ:=hid hJ
    have HD:=hid hDk
    clear hDk hwt hJ
    go_wp2_with fail
    exact⟨_,by kernel_rfl,fun q hq=>by obtain rfl:=hq rfl;exact NJ.call HOK.out HJ.out HD.out ⟨w1.heap.size,rfl,hsz,hnb⟩ hbl1⟩
   ·intro D xs w1 hDk hwt hJ
    obtain⟨a1,e5,ha1,hr2⟩:=hJ.l 4 (by decide) (hwt 4 (eM (by kernel_rfl)))
    rw[e5]
    have hp:=hJ.p
    rw[show D 5=false from hDk] at hp
    simp only[cond_false] at hp
    have hga:a1≠sg:=by have:=HLB.out;omega
    have HDI:=hid (die_one hp HLR.out hr2 hga (cap:=1))
    have HA1:=hid (And.intro ha1 (And.intro hr2 hga))
    clear e5 ha1 hr2 hp hga
    have HJ:=hid hJ
    have HD:=hid hDk
    clear hDk hwt hJ
    go_wp2_with (go_at_call 39;refine HDI.out.mono ?_;rintro e w2 ⟨rfl,hT2,hM2⟩)
    exact⟨_,by kernel_rfl,fun q hq=>by obtain rfl:=hq rfl;exact NJ.turnF HOK.out HJ.out HD.out ⟨a1,rfl,HA1.out.1,(hM2.block a1 (lt_of_block HA1.out.2.1) HA1.out.2.2).trans HA1.out.2.1⟩ hT2 hM2⟩
   ·intro D xs w1 hDk hwt hJ
    have hd6:∀ k,k∈([5]:List Nat)->D k=true:=fun k hk=>by simp at hk;subst hk;exact hwt 5 (eM (by kernel_rfl))
    obtain⟨a1,e6,_⟩:=hJ.l 5 (by decide) (hd6 5 (by simp))
    rw[e6]
    have H6:=hid e6
    clear e6
    have HJ:=hid hJ
    have HD:=hid hDk
    clear hDk hwt hJ
    go_wp2_with fail
    exact⟨_,by kernel_rfl,fun q hq=>by obtain rfl:=hq rfl;exact NJ.dep HOK.out HJ.out HD.out hd6 (by rw[H6.out]) (Below.refl _ _)⟩
   ·intro D xs w1 hDk hwt hJ
    skip
    have HJ:=hid hJ
    have HD:=hid hDk
    clear hDk hwt hJ
    go_wp2_with (fail)
    refine⟨by kernel_rfl,?_⟩
    intros
    exact NJ.calm HOK.out HJ.out HD.out (by first|exact Below.refl _ _|assumption)
  intro D xs wC hD hJ
  have hp:=hJ.p
  rw[hD 5 (by omega)] at hp
  simp only[cond_true] at hp
  obtain⟨_,e7⟩:=hJ.e 6 (hD 6 (by omega)) (by decide)
  obtain⟨a1,e6,ha1,hr2⟩:=hJ.l 5 (by decide) (hD 5 (by omega))
  have e7:xs 6=.slice (some ⟨a1,0,none⟩) 1 1:=by rw[e7,e6]
  have hM:=hJ.m
  dsimp only[List.take,z1s,List.drop]
  rw[e7]
  have HE:=hid (And.intro hp (And.intro ha1 (And.intro hr2 hM)))
  clear hD hJ hp e7 e6 ha1 hr2 hM HOK hTB
  go_wp2_with fail
  obtain⟨hp,ha1,hr2,hM⟩:=HE.out
  refine bodyPost_ret (v:=.tuple #[.slice (some ⟨a1,0,none⟩) 1 1,.int .i64 0]) ?hr ?hd ?post
  case hr=>kernel_rfl
  case hd=>kernel_rfl
  case post =>
   exact⟨a1,rfl,hr2,by have:=HMA.out.size;have:=HJB.out.m.size;omega,hp,(HMA.out.trans HJB.out.m (fun _ _ e=>.inl e)).trans hM (fun _ _ e=>.inl e)⟩
def PutC (P P':List (Cel PNd)) (L L':List (RefK × Wd)) (tk:Int) (i:Nat) (g:Int) (c v:ByteArray):Prop :=
 ∀ (t sb sg kb km:Nat) (w:World),z0s w t sb sg kb km P L tk->RoomsAt w->¬ TOwn sg km 0 ->
  Calls Tryz.prog 8 #[.pointer (some ⟨t,0,none⟩),.agg #[.int .i64 i,.int .u32 g],.string c,.string v] w fun e w'=>(∃ d,e=.returned (.tuple #[d,.int .i64 0]))/\z0s w' t sb sg kb km P' L' tk/\Mod (TOwn sg km) w w'
theorem rk_wf (hj:j<4096) (h0:0<=g) (h1:g<=4294967295):(Lit.int .i64 (j:Int)).wf=true/\(Lit.int .u32 g).wf=true:=by
 have e1:IntKind.i64.min=-9223372036854775808:=by decide
 have e2:IntKind.i64.max=9223372036854775807:=by decide
 have e3:IntKind.u32.min=0:=by decide
 have e4:IntKind.u32.max=4294967295:=by decide
 unfold Lit.wf
 simp only[Bool.and_eq_true,decide_eq_true_eq,e1,e2,e3,e4]
 refine⟨⟨?_,?_⟩,?_,?_⟩<;>omega
theorem kd_mk {b s:Int} (h1:0<=b) (h2:b<256) (h3:0<=s) (h4:s<4096) (h5:1<=g) (h6:g<=4294967295):(⟨b,s,g⟩:Kd).ok:=⟨⟨h1,h2⟩,⟨h3,h4⟩,h5,h6⟩
theorem room_lt {α:Type} {p:Cel α} (h:p.room=true):p.gen<4294967295:=by
 unfold Cel.room at h
 simp at h
 exact h.2
variable {way:List (Int × Int)}
theorem last_at {W1:List (Int × Int)} {r:Int × Int} (h:way=W1++[r]):way[way.length - 1]?=some r:=by subst h;simp
theorem last2_at {W2:List (Int × Int)} {r u:Int × Int} (h:way=(W2++[u])++[r]):way[way.length - 1 - 1]?=some u/\2<=way.length:=by
 subst h
 refine⟨?_,by simp⟩
 have e:((W2++[u])++[r]).length - 1 - 1=W2.length:=by simp
 rw[e,List.append_assoc,List.getElem?_append_right (Nat.le_refl _)]
 simp
section
variable {P:List (Cel PNd)} {i:Nat} {g:Int} {S:Nat->Prop} {E:Ents} {c v:ByteArray}
theorem sub_top (hs:Sub P i g true [] S E):∃ k pt L,z0l P i g i ⟨.z0k k pt L,true,false⟩:=by
 cases hs with
 | node h=>exact⟨_,_,_,h⟩
theorem node_facts {preu:List UInt8} {Su:Nat->Prop} {Eu:Ents} (h:Sub P u gu plu preu Su Eu) (hl:z0l P u gu u ⟨.z0k k pt Lk,plu,false⟩) :
 Rise Lk/\(∀ kd∈Lk,kd.ok)/\(plu=false->2<=Lk.length/\k=kindOf Lk.length/\pt.size<=34)/\(plu=true->k=5/\pt=⟨#[]⟩)/\(plu=false->∃ (e:ByteArray) (z:UInt8),z2l e/\preu++byt pt++[z] <+: byt e):=by
 cases h with
 | leaf hl2=>have:=(hl.uniq hl2).2;cases this
 | @node _ _ k2 pt2 L2 _ _ ki Ss Es hl2 hk hsub d1 d2 hr hok2 hL hn ha =>
  have e:=(hl.uniq hl2).2
  injection e with e1 _ _
  injection e1 with e2 e3 e4
  subst e2 e3 e4
  refine⟨hr,hok2,hn,ha,fun e=>?_⟩
  have h0:0<Lk.length:=by have:=(hn e).1;omega
  have hs:=hsub 0 _ (List.getElem?_eq_getElem h0)
  obtain⟨x,hx⟩:=List.exists_mem_of_ne_nil _ (hs.ne rfl)
  exact⟨x.1,_,(hs.mem x hx).2,(hs.mem x hx).1⟩
theorem die_live (h:z0l P u gu u q):dieAll P [((u:Int),gu)]=P.set u ⟨true,⟨q.n,q.planted,true⟩,gu⟩:=by
 obtain⟨_,p,h1,h2,h3,h4⟩:=h
 unfold dieAll
 simp only[List.foldl_cons,List.foldl_nil]
 unfold dieP
 simp only[Int.toNat_natCast,h1]
 rw[h2,h3,h4]
theorem two_ex (q:PNd) (hrm:2<=z1j P) (hj:P[j]?=some pj) (hjr:pj.room=true) (hg:GenOk P) (hlen:P.length<=4096) :
 ∃ (j2:Nat) (pj2:Cel PNd),z2s (P.set j ⟨true,q,pj.gen+1⟩) (j2:Int)/\P[j2]?=some pj2/\(P.set j ⟨true,q,pj.gen+1⟩)[j2]?=some pj2/\pj2.room=true/\j≠j2/\j2<P.length/\0<=pj2.gen/\pj2.gen<4294967295/\j2<4096:=by
 have h1:=roomN_set (c:=(⟨true,q,pj.gen+1⟩:Cel PNd)) hj hjr rfl
 obtain⟨j2,pj2,h2,h3,h4⟩:=first_ex (P:=P.set j ⟨true,q,pj.gen+1⟩) (by omega)
 have hjl:=(List.getElem?_eq_some_iff.1 hj).1
 have hne:j≠j2:=fun e=>by
  rw[<- e,List.getElem?_set_self hjl] at h3
  cases h3
  cases h4
 have h5:=h3
 rw[List.getElem?_set_ne hne] at h5
 have h6:=(List.getElem?_eq_some_iff.1 h5).1
 exact⟨j2,pj2,h2,h5,h3,h4,hne,h6,hg.at h5,room_lt h4,by omega⟩
theorem kOf_pl {n:Nat} {pl:Bool} (h:n+1<=256) (hn:pl=false->2<=n/\k=kindOf n) (ha:pl=true->k=5/\pt=⟨#[]⟩):n+1<=z0v (max (O.kOf pl k (n+1)) k)/\max (O.kOf pl k (n+1)) k<=5/\O.MayB (O.kOf pl k (n+1)) (n+1) pt:=by
 obtain⟨a1,a2,a3⟩:=kind_le h
 cases pl with
 | true =>
  obtain⟨rfl,rfl⟩:=ha rfl
  exact⟨by simp[O.kOf,z0v];omega,by simp[O.kOf],.inr ⟨rfl,rfl⟩⟩
 | false =>
  obtain⟨h2,rfl⟩:=hn rfl
  have e:O.kOf false (kindOf n) (n+1)=kindOf (n+1):=rfl
  have e2:max (kindOf (n+1)) (kindOf n)=kindOf (n+1):=by omega
  rw[e,e2]
  refine⟨a3,a2,.inl ?_⟩
  unfold O.isRightB
  simp
  omega
theorem Put_trie (hs:Sub P i g true [] S E) (hc:z2l c) (hv:v.size<=32) (hlen:P.length<=4096) (hg:GenOk P) (hrm:2<=z1j P) (L:List (RefK × Wd)) (tk:Int) :
 ∃ P' S' E' L',PutR P P' i g S S' E E' c v/\Chg P P' 2/\PutC P P' L L' tk i g c v:=by
 obtain⟨⟨sw,sway,sat,sdep⟩,u,gu,plu,preu,Su,Eu,E1,E2,W1,hsk,hsu,hpu,hplu,hE,hin,hway,hdep,hstop,hLS,hor⟩:=hs.down hc List.nil_prefix (fun _=>rfl) []
 obtain⟨ka,pta,La,hq⟩:=sub_top hs
 unfold Stop at hstop
 dsimp only at hway hdep hstop
 simp only[List.nil_append] at hway
 have hrl:=last_at hway
 obtain⟨j,pj,hF,hj,hjr⟩:=first_ex (P:=P) (by omega)
 have hjl:=(List.getElem?_eq_some_iff.1 hj).1
 have hjg:=hg.at hj
 have hjx:=room_lt hjr
 have hja:=alive_not hj hjr
 subst hdep
 have hds:preu.length<=c.size:=by rw[<- z1b];exact hpu.length_le
 have hcs:=hc.size
 let rr:RefK:=⟨((j:Int),pj.gen+1),rk_wf (by omega) (by omega) (by omega)⟩
 have hku:∀ (x:UInt8),(⟨x.toNat,(j:Int),pj.gen+1⟩:Kd).ok:=fun x=>by have:=x.toNat_lt;exact kd_mk (by omega) (by omega) (by omega) (by omega) (by omega) (by omega)
 rcases hstop with ⟨c',v0,hl,hplf,(⟨rfl,hw,hat⟩|⟨hne,hw,hat⟩)⟩|⟨k,pt,Lk,hl,(⟨hw,hlt,hat⟩|⟨x,hw,hcom,hx,hat,hf⟩)⟩
 ·
  -- here
  obtain⟨S',E',hR⟩:=put_here (v:=v) hs hsu hl hE hin hLS hpu hc
  refine⟨_,S',E',L,hR,(Chg.turn hl _).trans (Chg.refl _) rfl |> fun h=>⟨h.len,h.gen,by have:=h.room;omega⟩,fun t sb sg kb km w hT hr h0=>?_⟩
  obtain⟨l,hT,hRe⟩:=hT
  refine (Put_here (v:=v) w hT hRe hr hc hv hq rfl hsk hw hrl hl).mono ?_
  rintro e w' ⟨e1,h1,h2⟩
  exact⟨⟨_,e1⟩,h1,h2.mono (fun _ _ e=>.inl e)⟩
 ·
  -- a leaf of another code
  subst hplf
  subst hat
  rcases hor with ⟨_,_,_,e,_⟩|⟨p,gp,kp,ptp,Lp,plp,jp,kk,W2,hW1,hlp,hjp,hks,hkg,hkn,hRp,hkko,hSp,hnp,hl2,hLT⟩
  ·cases e
  ·subst hW1
   obtain⟨hul,hw2⟩:=last2_at hway
   obtain⟨m1,m2⟩:preu <+: byt c'/\z2l c':=by
    cases hsu with
    | leaf hl2 hp2 hc2=>have:=(hl.uniq hl2).2;cases this;exact⟨hp2,hc2⟩
    | node hl2=>have:=(hl.uniq hl2).2;cases this
   have hes:Su=(·=u)/\Eu=[(c',v0)]:=by
    cases hsu with
    | leaf hl2 hp2 hc2=>have:=(hl.uniq hl2).2;cases this;exact⟨rfl,rfl⟩
    | node hl2=>have:=(hl.uniq hl2).2;cases this
   obtain⟨rfl,rfl⟩:=hes
   obtain⟨x,y,hx,hy,hxy,hpx,hpy⟩:=part_leaf hc m2 hpu m1 hne
   have hcs2:=m2.size
   have hat34:com (rst c preu.length) (rst c' preu.length)<=34:=by
    have h1:=com_le1 (rst c preu.length) (rst c' preu.length)
    have h2:=rst_size c preu.length
    omega
   obtain⟨j2,pj2,hF2,hj2,hj2',hjr2,hjj,hj2l,hg2,hx2,h42⟩:=two_ex ⟨.leaf c v,false,false⟩ hrm hj hjr hg hlen
   have hja2:=alive_not hj2 hjr2
   have hju:j≠u:=fun e=>hja (e ▸ ⟨_,_,hl⟩)
   have hokm:(⟨kk.b,(j2:Int),pj2.gen+1⟩:Kd).ok:=kd_mk hkko.1.1 hkko.1.2 (by omega) (by omega) (by omega) (by omega)
   have hoku:(⟨(y.toNat:Int),(u:Int),gu⟩:Kd).ok:=by
    have:=y.toNat_lt
    rw[<- hks,<- hkg]
    exact kd_mk (by omega) (by omega) hkko.2.1.1 hkko.2.1.2 hkko.2.2.1 hkko.2.2.2
   have hjp2:j≠p:=fun e=>hja (e ▸ hs.live hSp)
   have hjp3:j2≠p:=fun e=>hja2 (e ▸ hs.live hSp)
   have hju2:j2≠u:=fun e=>hja2 (e ▸ ⟨_,_,hl⟩)
   have hpu2:p≠u:=fun e=>hnp (by rw[e])
   let rr2:RefK:=⟨((j2:Int),pj2.gen+1),rk_wf (by omega) (by omega) (by omega)⟩
   have hp0:((rst c preu.length).extract 0 (com (rst c preu.length) (rst c' preu.length))).size<=34:=by
    rw[<- z1b,byt_ext]
    have:=List.length_take_le (com (rst c preu.length) (rst c' preu.length)) (byt (rst c preu.length))
    omega
   obtain⟨S',E',hR⟩:=put_fork (P':=(((P.set j ⟨true,⟨.leaf c v,false,false⟩,pj.gen+1⟩).set j2 ⟨true,⟨.z0k 2 ((rst c preu.length).extract 0 (com (rst c preu.length) (rst c' preu.length))) (z1p ⟨y.toNat,u,gu⟩ ⟨x.toNat,j,pj.gen+1⟩),false,false⟩,pj2.gen+1⟩).set p ⟨true,⟨.z0k kp ptp (z1t Lp kk.b j2 (pj2.gen+1)),plp,false⟩,gp⟩)) (v:=v) hs hE hin hLT hSp rfl hc
    (.leaf (((hl.z1g hju).z1g hju2).z1g hpu2) hpy m2) hpx hxy hp0 hja hja2 hjj hoku (hku x) hokm
    ((z0l.put (by simp;exact hj2l) _ _).z1g hjp3.symm) (((z0l.put hjl _ _).z1g hjj.symm).z1g hjp2.symm) (.put (by simp;exact hlp.lt) _ _)
    (fun z a1 a2 a3 _=>by rw[List.getElem?_set_ne a3.symm,List.getElem?_set_ne a2.symm,List.getElem?_set_ne a1.symm])
   refine⟨_,S',E',(K.addL (K.addL L rr).2 rr2).2,hR,?_,fun t sb sg kb km w hT hr h0=>?_⟩
   ·exact ((Chg.take hj hjr _).trans (Chg.take hj2' hjr2 _) rfl).trans (Chg.turn ((hlp.z1g hjp2).z1g hjp3) _) rfl
   ·obtain⟨l,hT,hRe⟩:=hT
    refine (Put_fork4 (v:=v) w hT hRe hr hc hv hq rfl hsk hw hw2 hrl hl hF hj hjr hrm h0 rr rfl rfl (fun W b g' wc hT' hr' hs' hnb=>tfork_leaf (lf:=((j:Int),pj.gen+1)) W hT' hr' h0 hs' hw hnb (by omega) hrl hw2 hul (hl.z1g hju) (hlp.z1g hjp2) hF2 hj2' hjr2 hjp3 rr2 rfl rfl hds hx hy (by omega) hxy hat34 hoku (hku x) hjp (findK_self hRp hjp) hks hkg hkn hokm)).mono ?_
    rintro e w' ⟨e1,h1,h2⟩
    exact⟨⟨_,e1⟩,h1,h2⟩
 ·
  -- a path that parts
  subst hat
  obtain⟨n1,n2,n3,n4,n5⟩:=node_facts hsu hl
  have hplu0:plu=false:=by
   cases plu
   ·rfl
   ·obtain⟨_,rfl⟩:=n4 rfl
    exact absurd hlt (Nat.not_lt_zero _)
  subst hplu0
  obtain⟨e,z,he,hez⟩:=n5 rfl
  obtain⟨x,y,hx,hy,hxy,hpx,hpt⟩:=part_path hc he hpu ⟨z,hez⟩ hlt
  rcases hor with ⟨_,_,_,e,_⟩|⟨p,gp,kp,ptp,Lp,plp,jp,kk,W2,hW1,hlp,hjp,hks,hkg,hkn,hRp,hkko,hSp,hnp,hl2,hLT⟩
  ·cases e
  ·subst hW1
   obtain⟨hul,hw2⟩:=last2_at hway
   have hat34:com (rst c preu.length) pt<=34:=by have:=(n3 rfl).2.2;omega
   obtain⟨j2,pj2,hF2,hj2,hj2',hjr2,hjj,hj2l,hg2,hx2,h42⟩:=two_ex ⟨.leaf c v,false,false⟩ hrm hj hjr hg hlen
   have hja2:=alive_not hj2 hjr2
   have hju:j≠u:=fun e=>hja (e ▸ ⟨_,_,hl⟩)
   have hokm:(⟨kk.b,(j2:Int),pj2.gen+1⟩:Kd).ok:=kd_mk hkko.1.1 hkko.1.2 (by omega) (by omega) (by omega) (by omega)
   have hoku:(⟨(y.toNat:Int),(u:Int),gu⟩:Kd).ok:=by
    have:=y.toNat_lt
    rw[<- hks,<- hkg]
    exact kd_mk (by omega) (by omega) hkko.2.1.1 hkko.2.1.2 hkko.2.2.1 hkko.2.2.2
   have hjp2:j≠p:=fun e=>hja (e ▸ hs.live hSp)
   have hjp3:j2≠p:=fun e=>hja2 (e ▸ hs.live hSp)
   have hju2:j2≠u:=fun e=>hja2 (e ▸ ⟨_,_,hl⟩)
   have hpu2:p≠u:=fun e=>hnp (e ▸ hsu.self)
   let rr2:RefK:=⟨((j2:Int),pj2.gen+1),rk_wf (by omega) (by omega) (by omega)⟩
   have hp0:((rst c preu.length).extract 0 (com (rst c preu.length) pt)).size<=34:=by
    rw[<- z1b,byt_ext]
    have:=List.length_take_le (com (rst c preu.length) pt) (byt (rst c preu.length))
    omega
   have hbt:byt pt=byt ((rst c preu.length).extract 0 (com (rst c preu.length) pt))++[y]++byt (pt.extract (com (rst c preu.length) pt+1) pt.size):=by
    have h1:byt (pt.extract (com (rst c preu.length) pt+1) pt.size)=(byt pt).drop (com (rst c preu.length) pt+1):=byt_rst pt _
    rw[h1]
    exact hpt
   have hsh:=hsu.shorten (P':=((((P.set j ⟨true,⟨.leaf c v,false,false⟩,pj.gen+1⟩).set u ⟨true,⟨.z0k k (pt.extract (com (rst c preu.length) pt+1) pt.size) Lk,false,false⟩,gu⟩).set j2 ⟨true,⟨.z0k 2 ((rst c preu.length).extract 0 (com (rst c preu.length) pt)) (z1p ⟨y.toNat,u,gu⟩ ⟨x.toNat,j,pj.gen+1⟩),false,false⟩,pj2.gen+1⟩).set p ⟨true,⟨.z0k kp ptp (z1t Lp kk.b j2 (pj2.gen+1)),plp,false⟩,gp⟩)) hl hbt
    (((z0l.put (by simp;exact hl.lt) _ _).z1g hju2).z1g hpu2)
    (fun z hz hzu=>by
     have a1:j≠z:=fun e=>hja (e ▸ hs.live (hin z hz))
     have a2:j2≠z:=fun e=>hja2 (e ▸ hs.live (hin z hz))
     have a3:p≠z:=fun e=>hnp (e ▸ hz)
     rw[List.getElem?_set_ne a3,List.getElem?_set_ne a2,List.getElem?_set_ne hzu.symm,List.getElem?_set_ne a1])
   obtain⟨S',E',hR⟩:=put_fork (v:=v) hs hE hin hLT hSp hsu.self hc hsh hpx hxy hp0 hja hja2 hjj hoku (hku x) hokm
    ((z0l.put (by simp;exact hj2l) _ _).z1g hjp3.symm) ((((z0l.put hjl _ _).z1g hju.symm).z1g hjj.symm).z1g hjp2.symm) (.put (by simp;exact hlp.lt) _ _)
    (fun z a1 a2 a3 a4=>by rw[List.getElem?_set_ne a3.symm,List.getElem?_set_ne a2.symm,List.getElem?_set_ne a4.symm,List.getElem?_set_ne a1.symm])
   refine⟨_,S',E',(K.addL (K.addL L rr).2 rr2).2,hR,?_,fun t sb sg kb km w hT hr h0=>?_⟩
   ·have hj3:((P.set j ⟨true,⟨.leaf c v,false,false⟩,pj.gen+1⟩).set u ⟨true,⟨.z0k k (pt.extract (com (rst c preu.length) pt+1) pt.size) Lk,false,false⟩,gu⟩)[j2]?=some pj2:=by rw[List.getElem?_set_ne hju2.symm];exact hj2'
    exact (((Chg.take hj hjr _).trans (Chg.turn (hl.z1g hju) _) rfl).trans (Chg.take hj3 hjr2 _) rfl).trans (Chg.turn (((hlp.z1g hjp2).z1g hpu2.symm).z1g hjp3) _) rfl
   ·obtain⟨l,hT,hRe⟩:=hT
    refine (Put_fork3 (v:=v) w hT hRe hr hc hv hq rfl hsk hw hw2 hrl hl hF hj hjr hrm h0 rr rfl rfl (fun W b g' wc hT' hr' hs' hnb=>tfork_split (lf:=((j:Int),pj.gen+1)) W hT' hr' h0 hs' hw hnb (by omega) hrl hw2 hul (hl.z1g hju) (hlp.z1g hjp2) hF2 hj2' hjr2 hjp3 hju2 hpu2.symm rr2 rfl rfl hds hx hy hxy hat34 hoku (hku x) hjp (findK_self hRp hjp) hks hkg hkn hokm)).mono ?_
    rintro e w' ⟨e1,h1,h2⟩
    exact⟨⟨_,e1⟩,h1,h2⟩
 ·
  -- a byte that is no kid's
  obtain⟨n1,n2,n3,n4,_⟩:=node_facts hsu hl
  subst hat
  have hlen2:Lk.length+1<=256:=by
   have:=rise_room (insK_rise n1 (k:=⟨x.toNat,j,pj.gen+1⟩) hf) (O.insK_ok n2 (hku x))
   rwa [z2y] at this
  obtain⟨k1,k2,k3⟩:=kOf_pl hlen2 (fun e=>⟨(n3 e).1,(n3 e).2.1⟩) n4
  have hju:j≠u:=fun e=>hja (e ▸ ⟨_,_,hl⟩)
  have hx256:=x.toNat_lt
  cases hgr:(!plu && !(((kindOf (Lk.length+1):Nat):Int) == k)) with
  | false =>
   obtain⟨S',E',hR⟩:=put_bare (P':=(P.set j ⟨true,⟨.leaf c v,false,false⟩,pj.gen+1⟩).set u ⟨true,⟨.z0k (O.kOf plu k (Lk.length+1)) pt (insK Lk ⟨x.toNat,j,pj.gen+1⟩),plu,false⟩,gu⟩) (v:=v) hs hsu hl hE hin hLS hpu hc hcom hx hf hja (hku x) (k':=O.kOf plu k (Lk.length+1)) (fun e=>by subst e;rfl) (fun e=>by subst e;exact (n4 rfl).1)
    (.put (by simp;exact hl.lt) _ _) ((z0l.put hjl _ _).z1g hju.symm) (fun z h1 h2=>by rw[List.getElem?_set_ne h2.symm,List.getElem?_set_ne h1.symm])
   refine⟨_,S',E',(K.addL L rr).2,hR,((Chg.take hj hjr _).trans (Chg.turn (hl.z1g hju) _) rfl |> fun h=>⟨h.len,h.gen,by have:=h.room;omega⟩),fun t sb sg kb km w hT hr h0=>?_⟩
   obtain⟨l,hT,hRe⟩:=hT
   refine (Put_bare (v:=v) w hT hRe hr hc hv hq rfl hsk hw hrl hl hgr hF hj hjr hju hx256 (hku x) hf k1 k2 h0 k3 rr rfl rfl).mono ?_
   rintro e w' ⟨e1,h1,h2⟩
   exact⟨⟨_,e1⟩,h1,h2⟩
  | true =>
   have hplu0:plu=false:=by
    cases plu
    ·rfl
    ·cases hgr
   subst hplu0
   have hk':k≠kindOf (Lk.length+1):=fun e=>by rw[e] at hgr;simp at hgr
   rcases hor with ⟨_,_,_,e,_⟩|⟨p,gp,kp,ptp,Lp,plp,jp,kk,W2,hW1,hlp,hjp,hks,hkg,hkn,hRp,hkko,hSp,hnp,hl2,hLT⟩
   ·cases e
   ·subst hW1
    obtain⟨hul,hw2⟩:=last2_at hway
    obtain⟨j2,pj2,hF2,hj2,hj2',hjr2,hjj,hj2l,hg2,hx2,h42⟩:=two_ex ⟨.leaf c v,false,false⟩ hrm hj hjr hg hlen
    have hja2:=alive_not hj2 hjr2
    have hokm:(⟨kk.b,(j2:Int),pj2.gen+1⟩:Kd).ok:=kd_mk hkko.1.1 hkko.1.2 (by omega) (by omega) (by omega) (by omega)
    have hjp2:j≠p:=fun e=>hja (e ▸ hs.live hSp)
    have hjp3:j2≠p:=fun e=>hja2 (e ▸ hs.live hSp)
    have hju2:j2≠u:=fun e=>hja2 (e ▸ ⟨_,_,hl⟩)
    have hpu2:p≠u:=fun e=>hnp (e ▸ hsu.self)
    let rr2:RefK:=⟨((j2:Int),pj2.gen+1),rk_wf (by omega) (by omega) (by omega)⟩
    have hl3:z0l (((P.set j ⟨true,⟨.leaf c v,false,false⟩,pj.gen+1⟩).set j2 ⟨true,⟨.z0k (kindOf (Lk.length+1)) pt (insK Lk ⟨x.toNat,j,pj.gen+1⟩),false,false⟩,pj2.gen+1⟩).set p ⟨true,⟨.z0k kp ptp (z1t Lp kk.b j2 (pj2.gen+1)),plp,false⟩,gp⟩) u gu u ⟨.z0k k pt Lk,false,false⟩:=((hl.z1g hju).z1g hju2).z1g hpu2
    obtain⟨S',E',hR⟩:=put_grow (P':=dieAll (((P.set j ⟨true,⟨.leaf c v,false,false⟩,pj.gen+1⟩).set j2 ⟨true,⟨.z0k (kindOf (Lk.length+1)) pt (insK Lk ⟨x.toNat,j,pj.gen+1⟩),false,false⟩,pj2.gen+1⟩).set p ⟨true,⟨.z0k kp ptp (z1t Lp kk.b j2 (pj2.gen+1)),plp,false⟩,gp⟩) [((u:Int),gu)]) (v:=v) hs hsu hl hE hin hLT hSp hnp hpu hc hcom hx hf hja hja2 hjj (hku x) hokm
     (by rw[die_live hl3];exact ((z0l.put (by simp;exact hj2l) _ _).z1g hjp3.symm).z1g hju2.symm)
     (by rw[die_live hl3];exact (((z0l.put hjl _ _).z1g hjj.symm).z1g hjp2.symm).z1g hju.symm)
     (by rw[die_live hl3];exact (z0l.put (by simp;exact hlp.lt) _ _).z1g hpu2.symm)
     (fun z a1 a2 a3 a4=>by rw[die_live hl3,List.getElem?_set_ne a4.symm,List.getElem?_set_ne a3.symm,List.getElem?_set_ne a2.symm,List.getElem?_set_ne a1.symm])
    refine⟨_,S',E',(K.addL (K.addL L rr).2 rr2).2,hR,?_,fun t sb sg kb km w hT hr h0=>?_⟩
    ·have h1:=(Chg.take hj hjr ⟨.leaf c v,false,false⟩).trans (Chg.take hj2' hjr2 ⟨.z0k (kindOf (Lk.length+1)) pt (insK Lk ⟨x.toNat,j,pj.gen+1⟩),false,false⟩) rfl
     have h2:=h1.trans (Chg.turn ((hlp.z1g hjp2).z1g hjp3) ⟨.z0k kp ptp (z1t Lp kk.b j2 (pj2.gen+1)),plp,false⟩) rfl
     rw[die_live hl3]
     exact h2.trans (Chg.turn hl3 _) rfl
    ·obtain⟨l,hT,hRe⟩:=hT
     refine (Put_grow (v:=v) w hT hRe hr hc hv hq rfl hsk hw hw2 hrl hul hl (by simpa using hgr) hlp hF hj hjr hF2 hj2 hjr2 hjj hrm hjp (findK_self hRp hjp) hks hkg hkn hokm hx256 (hku x) hf k1 k2 h0 k3 rr rr2 rfl rfl rfl rfl).mono ?_
     rintro e w' ⟨a,e1,_,_,h1,h2⟩
     exact⟨⟨_,e1⟩,h1,h2⟩
end
end Go.Proofs.YtgdmfledhhoedaaGreatDoor.T
