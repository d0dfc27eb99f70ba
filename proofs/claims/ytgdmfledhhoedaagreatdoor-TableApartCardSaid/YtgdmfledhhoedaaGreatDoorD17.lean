/- Part 17 of 27. -/
import Derived.Test.YtgdmfledhhoedaaGreatDoorD16
import Derived.Test.YtgdmfledhhoedaaGreatDoorD08
namespace Go.Burg
open Go Go.RowKit
theorem z2s.set {α:Type} {P:List (Cel α)} {j:Int} {i:Nat} {p c:Cel α} (h:z2s P j) (hp:P[i]?=some p) (h1:p.room=false) (h2:c.room=false):z2s (P.set i c) j:=by
 have hil:i<P.length:=(List.getElem?_eq_some_iff.1 hp).1
 have old:∀ k d,(P.set i c)[k]?=some d->k≠i->P[k]?=some d:=fun k d hd hk=>by rwa [List.getElem?_set_ne (fun e=>hk e.symm)] at hd
 rcases h with ⟨k,d,rfl,g1,g2,g3⟩|⟨rfl,g⟩
 ·have hki:k≠i:=fun e=>by
   subst e
   rw[hp] at g1
   cases g1
   rw[h1] at g2
   cases g2
  refine .inl ⟨k,d,rfl,by rw[List.getElem?_set_ne (fun e=>hki e.symm)];exact g1,g2,fun m hm d' hd'=>?_⟩
  by_cases e:m=i
  ·subst e
   rw[List.getElem?_set_self hil] at hd'
   cases hd'
   exact h2
  ·exact g3 m hm d' (old m d' hd' e)
 ·refine .inr ⟨rfl,fun m d' hd'=>?_⟩
  by_cases e:m=i
  ·subst e
   rw[List.getElem?_set_self hil] at hd'
   cases hd'
   exact h2
  ·exact g m d' (old m d' hd' e)
variable {g s:Int} {P:List (Cel PNd)} {i:Nat} {q:PNd}
theorem z0l.noroom (h:z0l P s g i q):∃ p,P[i]?=some p/\p.room=false:=by
 obtain⟨_,p,h1,h2,_⟩:=h
 exact⟨p,h1,by unfold Cel.room;rw[h2];rfl⟩
theorem z0l.z1g {j:Nat} {c:Cel PNd} (h:z0l P s g i q) (hne:j≠i):z0l (P.set j c) s g i q:=by
 obtain⟨e,p,h1,h2⟩:=h
 exact⟨e,p,by rw[List.getElem?_set_ne hne];exact h1,h2⟩
end Go.Burg
namespace Go.Proofs.YtgdmfledhhoedaaGreatDoor.T
set_option maxRecDepth 8000
open Go.ChangeShapes Go.WideShapes Go.ChangeAt Go.RowKit Go.Burg
open Go.Burg.Lk
set_option maxRecDepth 20000 in
set_option maxHeartbeats 8000000 in
theorem tfork_split {t sb sg kb km ir iu j jj k kr b g wc:Nat} {P:List (Cel PNd)} {L:List (RefK × Wd)} {tk:Int} {c ptr pt:ByteArray} {s:SpotP} {r u0 lf:Int × Int} {Lk Lr:List Kd} {pl di plr dir:Bool} {pj:Cel PNd} {kk:Kd} {x y:UInt8} (w:World) (h:z0s w t sb sg kb km P L tk) (hr:RoomsAt w) (h0:¬ TOwn sg km 0)
 (hs:SpotAt w b g wc s) (hw:s.what=3) (hnb:¬ TOwn sg km b/\¬ TOwn sg km g) (hc:c.size<=1000) (hrl:s.way[s.way.length - 1]?=some r) (h2:2<=s.way.length) (hul:s.way[s.way.length - 1 - 1]?=some u0) (hqr:z0l P r.1 r.2 ir ⟨.z0k kr ptr Lr,plr,dir⟩) (hqu:z0l P u0.1 u0.2 iu ⟨.z0k k pt Lk,pl,di⟩)
 (hF:z2s P (j:Int)) (hj:P[j]?=some pj) (hjr:pj.room=true) (hju:j≠iu) (hji:j≠ir) (hru:ir≠iu) (rr:RefK) (hr1:rr.1.1=j) (hr2:rr.1.2=pj.gen+1) (hd:s.depth<=c.size) (hx:(byt (rst c s.depth))[s.at_]?=some x) (hy:(byt ptr)[s.at_]?=some y) (hxy:x≠y) (hat:s.at_<=34)
 (hkr:(⟨y.toNat,r.1,r.2⟩:Kd).ok) (hkl:(⟨x.toNat,lf.1,lf.2⟩:Kd).ok) (hkj:Lk[jj]?=some kk) (hkf:z0p Lk kk.b=some kk) (hks:kk.s=r.1) (hkg:kk.g=r.2) (hkn:∀ i k,i<jj->Lk[i]?=some k->¬ (k.s=r.1/\k.g=r.2)) (hok:(⟨kk.b,j,pj.gen+1⟩:Kd).ok) :
 Calls Tryz.prog 35 #[.pointer (some ⟨t,0,none⟩),.pointer (some ⟨b,0,none⟩),.string c,.agg #[.int .i64 lf.1,.int .u32 lf.2]] w fun e w'=>e=.returned (.tuple #[]) /\
  z0s w' t sb sg kb km ((((P.set ir ⟨true,⟨.z0k kr (ptr.extract (s.at_+1) ptr.size) Lr,plr,dir⟩,r.2⟩)).set j ⟨true,⟨.z0k 2 ((rst c s.depth).extract 0 s.at_) (z1p ⟨y.toNat,r.1,r.2⟩ ⟨x.toNat,lf.1,lf.2⟩),false,false⟩,pj.gen+1⟩).set iu ⟨true,⟨.z0k k pt (z1t Lk kk.b j (pj.gen+1)),pl,di⟩,u0.2⟩) (K.addL L rr).2 tk/\Mod (TOwn sg km) w w':=by
 have b0:=z0a w (.cells #[.int .i64 lf.1,.int .u32 lf.2] 36 (0,0))
 have hB:Below w.heap.size w (w.alloc (.cells #[.int .i64 lf.1,.int .u32 lf.2] 36 (0,0))):=(Below.refl _ _).alloc (Nat.le_refl _) _
 have HUP:=hid (up_at (k:=0) (hs.keep hB) (by omega) (by simpa using hrl))
 have HH:=hid h
 obtain⟨l,ya,yc,za,zc,hTA,hRE,hLx,hNX,hMX⟩:=h.z0k hqr
 have HTA:=hid hTA
 have HNX:=hid hNX
 have HRM:=hid hr
 have HSP:=hid (hs.keep hB)
 have HLT:=hid h.lt
 have hbg:b<w.heap.size/\g<w.heap.size:=⟨lt_of_block hs.h,hs.glt⟩
 have HBG:=hid hbg
 have HUL:=hid hul
 have HX:=hid hx
 have HY:=hid hy
 have HWH:=hid hw
 have hyl:s.at_<ptr.size:=by
  have:=(List.getElem?_eq_some_iff.1 hy).1
  rwa [z1b] at this
 have HMB:Hid (O.MayB kr Lr.length (ptr.extract (s.at_+1) ptr.size)):=hid (by
  rcases hMX with e|⟨_,e⟩
  ·exact .inl e
  ·subst e
   exact absurd hyl (Nat.not_lt_zero _))
 have HYL:=hid hyl
 clear h hr hs hbg hul hrl hx hy hw hTA hRE hNX hMX hyl
 go_enter Tryz.func35,Tryz.ntmps35
 go_wp2_with (go_at_call 31;refine HUP.out.mono ?_;rintro e w1 ⟨rfl,hb1⟩;go_loud (have r1:=z0a w1 (.cells #[.int .i64 r.1,.int .u32 r.2] 36 (0,0));have hbr:Below w1.heap.size w1 (w1.alloc (.cells #[.int .i64 r.1,.int .u32 r.2] 36 (0,0))):=(Below.refl _ _).alloc (Nat.le_refl _) _;have hb:=hb1.trans (hbr.mono hb1.size);have HS1:=hid (HSP.out.keep hb);have HB1:=hid (hB.trans (hb.mono hB.size));have R1:=hid r1;have hlb1:w.heap.size<=w1.heap.size:=(by have:=hb1.size;simp at this;omega);have B1:=hid ((hb.block _ (lt_of_block b0)).trans b0);clear hb1 r1 hbr hb))
 generalize hWX:w1.alloc (.cells #[.int .i64 r.1,.int .u32 r.2] 36 (0,0))=W at *
 have HRB:Hid (t<w1.heap.size/\sg<w1.heap.size/\km<w1.heap.size/\sg<w.heap.size/\km<w.heap.size):=hid (by have:=HLT.out;have:=HB1.out.size;have hs9:=lt_of_block R1.out;have hz:w.heap.size<=w1.heap.size:=hlb1;omega)
 generalize w1.heap.size=rb at *
 generalize hlb:w.heap.size=lb at *
 clear hWX HUP HSP b0
 have hTA:=HTA.out.keep (hlb ▸ HB1.out)
 have HTW:=hid hTA
 have HPN:Hid (∀ w1,Below W.heap.size W w1->Calls Tryz.prog 32 #[.pointer (some ⟨t,0,none⟩),.agg #[.int .i64 r.1,.int .u32 r.2]] w1 fun e w'=>e=.returned (.agg #[.int .i64 kr,.string ⟨#[]⟩,.string ⟨#[]⟩,.string ptr,.slice ya Lr.length yc,.slice za Lr.length zc])/\Below w1.heap.size w1 w'):=hid (fun w1 hw1=>node_at r.1 r.2 w1 (HTW.out.keep hw1) hLx)
 have n0:=cell_of R1.out 0
 have n1:=cell_of R1.out 1
 have t0:=cell_of hTA.ht 0
 have l0:=lt_of_block R1.out
 have l1:=lt_of_block hTA.ht
 clear hTA hLx
 go_region_with (go_at_call 32;refine (HPN.out _ (by (repeat (first|exact Below.refl _ _|assumption|with_reducible refine Below.drew ?_|with_reducible refine below_drewN ?_|with_reducible refine Below.setCell ?_ (by first|(simp;done)|(simp;omega)) _|with_reducible refine Below.alloc ?_ (by first|exact Nat.le_refl _|(simp;done)|(simp;omega)) _)))).mono ?_;rintro e w2 ⟨rfl,hw2⟩;(try (have z:=(hw2.block W.heap.size (by simp)).trans (z0a W (.cells #[.int .i64 0,.string ⟨#[]⟩,.string ⟨#[]⟩,.string ⟨#[]⟩,.slice none 0 0,.slice none 0 0] 102 (0,0)));have z0:=cell_of z 0;have z1:=cell_of z 1;have z2:=cell_of z 2;have z3:=cell_of z 3;have z4:=cell_of z 4;have z5:=cell_of z 5;have zf:=z0e z));have HW2:Hid (Below W.heap.size W w2):=hid (z0d (by (repeat (first|exact Below.refl _ _|assumption|with_reducible refine Below.drew ?_|with_reducible refine below_drewN ?_|with_reducible refine Below.setCell ?_ (by first|(simp;done)|(simp;omega)) _|with_reducible refine Below.alloc ?_ (by first|exact Nat.le_refl _|(simp;done)|(simp;omega)) _))) hw2 (by first|exact Nat.le_refl _|(simp;done)|(simp;omega)));clear hw2)
 all_goals first|(have hmid:=nodeB (k:=kr) (cd:=⟨#[]⟩) (vl:=⟨#[]⟩) (pt:=ptr) (ya:=ya) (za:=za) (yn:=Lr.length) (yc:=yc) (zn:=Lr.length) (zc:=zc) HW2.out z;generalize hE:((((((w2.setCell ⟨W.heap.size,0,none⟩ (.int .i64 kr)).setCell ⟨W.heap.size,1,none⟩ (.string ⟨#[]⟩)).setCell ⟨W.heap.size,2,none⟩ (.string ⟨#[]⟩)).setCell ⟨W.heap.size,3,none⟩ (.string ptr)).setCell ⟨W.heap.size,4,none⟩ (.slice ya Lr.length yc)).setCell ⟨W.heap.size,5,none⟩ (.slice za Lr.length zc))=w3 at hmid ⊢;generalize hEu:W.heap.size=u at hmid ⊢)|(have hmid:=nmidA (o:=(.cells #[.int .i64 kr,.string ⟨#[]⟩,.string ⟨#[]⟩,.string ptr,.slice ya Lr.length yc,.slice za Lr.length zc] 102 (0,0))) HW2.out;generalize hE:w2.alloc (.cells #[.int .i64 kr,.string ⟨#[]⟩,.string ⟨#[]⟩,.string ptr,.slice ya Lr.length yc,.slice za Lr.length zc] 102 (0,0))=w3 at hmid ⊢;generalize hEu:w2.heap.size=u at hmid ⊢)
 all_goals
  try clear z z0 z1 z2 z3 z4 z5 zf
  clear hE hEu HPN n0 n1 t0 HW2 l0 l1 HTW
  obtain⟨hb3,hu,ho⟩:=hmid
  have HB3:=hid ((hlb ▸ HB1.out).trans (hb3.mono (hlb ▸ HB1.out.size)))
  have hs3:=HS1.out.keep hb3
  have R3:=hid ((hb3.block _ (lt_of_block R1.out)).trans R1.out)
  have B3:=hid ((hb3.block _ (lt_of_block B1.out)).trans B1.out)
  have s0:=cell_of hs3.h 0
  have s3:=cell_of hs3.h 3
  rw[HWH.out] at s0
  have HO3:=hid ho
  have HS3:=hid hs3
  have hul:lb<=u/\rb<u/\b<u/\g<u/\lb<u:=by have:=HB1.out.size;have:=lt_of_block R1.out;have:=HBG.out;have:=HS1.out.glt;have:=lt_of_block HS1.out.h;have:=lt_of_block B1.out;omega
  have HUL2:=hid hul
  clear hs3 ho hb3 hul
  go_wp2_with fail
  have hgk:GKeeps (fun (_:World) (v:Value)=>v=.tuple #[.string (ptr.extract 0 s.at_),.int .u8 y.toNat,.string (ptr.extract (s.at_+1) ptr.size),.bool true]) u:=fun _ _ _ h _=>h
  have HGK:=hid hgk
  have HCU:=hid (fun w=>Go.Proofs.YtgdmfledhhoedaaGreatDoor.P.Cut_at (a:=ptr) (n:=s.at_) w y HY.out (by have:=HNX.out.p;omega))
  clear hgk
  refine z0r 15 [] (fun _=>([.pointer (some ⟨u,3,none⟩),.string ptr,.pointer (some ⟨b,0,none⟩),.pointer (some ⟨b,0,none⟩),.pointer (some ⟨b,2,none⟩),.int .i64 s.at_,.tuple #[.string (ptr.extract 0 s.at_),.int .u8 y.toNat,.string (ptr.extract (s.at_+1) ptr.size),.bool true],.tuple #[.string (ptr.extract 0 s.at_),.int .u8 y.toNat,.string (ptr.extract (s.at_+1) ptr.size),.bool true],.string (ptr.extract 0 s.at_),.int .u8 y.toNat,.string (ptr.extract (s.at_+1) ptr.size),.bool true,.int .u8 y.toNat,.pointer (some ⟨u,3,none⟩),undef]:List Value)) (GJ 102 (fun (_:World) (v:Value)=>v=.tuple #[.string (ptr.extract 0 s.at_),.int .u8 y.toNat,.string (ptr.extract (s.at_+1) ptr.size),.bool true]) w3 u 6 14 [] [] [(6,1),(10,7),(7,6)] (fun _=>undef) (fun _ x=>x) #[.int .i64 kr,.string ⟨#[]⟩,.string ⟨#[]⟩,.string ptr,.slice ya Lr.length yc,.slice za Lr.length zc] (fun _=>#[.int .i64 kr,.string ⟨#[]⟩,.string ⟨#[]⟩,.string (ptr.extract (s.at_+1) ptr.size),.slice ya Lr.length yc,.slice za Lr.length zc])) ?h0 (fun _ _ _=>rfl) ?hs ?hend
  case h0=>exact GJ.start HO3.out
  case hs =>
   dsimp only[List.take,z1c,OpT,z1s]
   (repeat' refine And.intro ?_ ?_)<;>first|refine .inl ⟨rfl,?_⟩|refine .inr ⟨rfl,?_⟩
   ·intro D xs w1 hDk hwt hJ
    skip
    have HJ:=hid hJ
    clear hDk hwt hJ
    go_wp2_with fail
    refine⟨by kernel_rfl,?_⟩;(try intro _ _);exact GJ.calm HGK.out HJ.out (Below.refl _ _) (fun j' h=>absurd h (by simp))
   ·intro D xs w1 hDk hwt hJ
    have h14:D 14=false:=by
     cases e:D 14
     ·rfl
     ·have:=hJ.p 6 1 (by decide) (hJ.s e)
      rw[this] at hDk
      cases hDk
    have hc:=hJ.c
    rw[h14] at hc
    simp only[cond_false] at hc
    have q3:=cell_of hc 3
    have HJ:=hid hJ
    clear hDk hwt hJ hc
    go_wp2_with fail
    refine⟨by kernel_rfl,?_⟩;(try intro _ _);exact GJ.calm HGK.out HJ.out (Below.refl _ _) (fun j' h=>absurd h (by simp))
   iterate 4
    ·intro D xs w1 hDk hwt hJ
     have s2:=cell_of ((hJ.m.block b (lt_of_block HS3.out.h) (by have:=HUL2.out;show ¬ b=u;omega)).trans HS3.out.h) 2
     have HJ:=hid hJ
     clear hDk hwt hJ
     go_wp2_with fail
     refine⟨by kernel_rfl,?_⟩;(try intro _ _);exact GJ.calm HGK.out HJ.out (Below.refl _ _) (fun j' h=>absurd h (by simp))
   ·intro D xs w1 hDk hwt hJ
    have hD:D 6=false:=hDk
    have h1:=hwt 1 (eM (by kernel_rfl))
    have HJ:=hid hJ
    clear hDk hwt hJ
    go_wp2_with (go_at_call 71;refine (HCU.out _).mono ?_;rintro e w2 ⟨rfl,hb2⟩)
    exact⟨by kernel_rfl,fun q hq=>by obtain rfl:=hq rfl;exact GJ.call HJ.out hD rfl hb2 (fun j' h=>by simp at h;subst h;exact h1)⟩
   ·intro D xs w1 hDk hwt hJ
    skip
    have HJ:=hid hJ
    have HWT:=hid hwt
    clear hDk hwt hJ
    go_wp2_with fail
    refine⟨by kernel_rfl,?_⟩;(try intro _ _);exact GJ.calm HGK.out HJ.out (Below.refl _ _) (fun j' h=>by simp at h;subst h;exact HWT.out 6 (eM (by kernel_rfl)))
   iterate 2
    ·intro D xs w1 hDk hwt hJ
     skip
     have HJ:=hid hJ
     clear hDk hwt hJ
     go_wp2_with fail
     refine⟨by kernel_rfl,?_⟩;(try intro _ _);exact GJ.calm HGK.out HJ.out (Below.refl _ _) (fun j' h=>absurd h (by simp))
   ·intro D xs w1 hDk hwt hJ
    skip
    have HJ:=hid hJ
    have HWT:=hid hwt
    clear hDk hwt hJ
    go_wp2_with fail
    refine⟨by kernel_rfl,?_⟩;(try intro _ _);exact GJ.calm HGK.out HJ.out (Below.refl _ _) (fun j' h=>by simp at h;subst h;exact HWT.out 7 (eM (by kernel_rfl)))
   iterate 3
    ·intro D xs w1 hDk hwt hJ
     skip
     have HJ:=hid hJ
     clear hDk hwt hJ
     go_wp2_with fail
     refine⟨by kernel_rfl,?_⟩;(try intro _ _);exact GJ.calm HGK.out HJ.out (Below.refl _ _) (fun j' h=>absurd h (by simp))
   ·intro D xs w1 hDk hwt hJ
    have hD:D 14=false:=hDk
    have h6:D 6=true:=by
     exact hJ.p 7 6 (by decide) (hJ.p 10 7 (by decide) (hwt 10 (eM (by kernel_rfl))))
    have hc:=hJ.c
    rw[hD] at hc
    simp only[cond_false] at hc
    have q3:=cell_of hc 3
    have qf:=z0e hc
    have HC:=hid hc
    have HJ:=hid hJ
    clear hDk hwt hJ hc
    go_wp2_with fail
    have m1:(w1.setCell ⟨u,3,none⟩ (.string (ptr.extract (s.at_+1) ptr.size))).heap[u]?=some (.cells #[.int .i64 kr,.string ⟨#[]⟩,.string ⟨#[]⟩,.string (ptr.extract (s.at_+1) ptr.size),.slice ya Lr.length yc,.slice za Lr.length zc] 102 (0,0)):=z0y HC.out rfl
    have m2:Mod (·=u) w1 (w1.setCell ⟨u,3,none⟩ (.string (ptr.extract (s.at_+1) ptr.size))):=Mod.setCell (S:=(·=u)) (p:=⟨u,3,none⟩) (Mod.refl _ w1) (.inl rfl) _
    exact⟨by kernel_rfl,fun q _=>GJ.store HGK.out HJ.out h6 m2 m1 (fun j' h=>absurd h (by simp))⟩
  case hend =>
   intro D xs w8 hD hJ
   have hc:=hJ.c
   rw[hD 14 (by omega)] at hc
   simp only[cond_true] at hc
   have hM:=hJ.m
   have h2l:=HUL2.out
   have hlt:=HLT.out
   have HB3w:Hid (Below w.heap.size w w3):=HB3
   have hmx:∀ k,k<lb->¬ k=u:=fun k hk=>by omega
   have hno:∀ k,k=u->NoRow w3 k:=fun k e cs T fr hk=>by
    subst e
    rw[HO3.out] at hk
    cases hk
    exact⟨by decide,by decide⟩
   have HT8:=hid ((HH.out.keep HB3w.out).mod hM hno (hmx t (by omega)) (hmx sb (by omega)) (hmx sg (by omega)) (hmx kb (by omega)) (hmx km (by omega)))
   have hN3:=HNX.out.keep HB3w.out
   have HN8:Hid (O.NodeIn w8 kr (ptr.extract (s.at_+1) ptr.size) ya Lr.length yc za Lr.length zc Lr):=hid ⟨O.z0h hN3.b hM (O.z1m hN3.b HO3.out (by decide)),O.z0h hN3.z hM (O.z1m hN3.z HO3.out (by decide)),hN3.k1,hN3.k2,(by have:=hN3.p;simp;omega),hN3.len,hN3.rise,hN3.ok⟩
   have R8:=hid ((hM.block rb (lt_of_block R3.out) (show ¬ rb=u by omega)).trans R3.out)
   have L8:=hid ((hM.block lb (lt_of_block B3.out) (show ¬ lb=u by omega)).trans B3.out)
   have HS8:=hid (HS3.out.mod hM (show b≠u by omega) (show g≠u by omega))
   have U8:Hid (w8.heap[u]?=some (.cells #[.int .i64 kr,.string ⟨#[]⟩,.string ⟨#[]⟩,.string (ptr.extract (s.at_+1) ptr.size),.slice ya Lr.length yc,.slice za Lr.length zc] 102 (0,0))):=hid hc
   have hrb:=HRB.out
   have HNS8:Hid (¬ rb=sg/\¬ u=sg):=hid (by omega)
   have HM8:Hid (Mod (TOwn sg km) w w8):=hid ((Mod.z0j (S:=TOwn sg km) HB3w.out).trans hM (fun i hi e=>by have e':i=u:=e;omega))
   have HQR:=hid hqr
   dsimp only[List.take,z1s,List.drop]
   clear hD hJ hc hM h2l hlt hmx hno hN3 hrb hqr
   go_wp2_with fail
   refine z0f 6 (Turn 5 (KidJ w8 t sb sg kb km P L tk) (KidJ w8 t sb sg kb km (P.set ir ⟨true,⟨.z0k kr (ptr.extract (s.at_+1) ptr.size) Lr,plr,dir⟩,r.2⟩) L tk)) (by kernel_rfl) (by kernel_rfl) (by kernel_rfl) (Turn.start ⟨(Mod.refl (·=sg) w8).drew,HT8.out.keep (Below.refl _ _).drew⟩) ?_
   dsimp only[List.take]
   iterate 5
    refine Seq.calm (a':=?_) (by decide) ?_ ?_ ?_
    rotate_left
    ·intro w1 hw1
     have hM:Mod (·=sg) w8 w1:=hw1.elim KidJ.m KidJ.m;have n0:=cell_of ((hM.block rb (lt_of_block R8.out) HNS8.out.1).trans R8.out) 0;have n1:=cell_of ((hM.block rb (lt_of_block R8.out) HNS8.out.1).trans R8.out) 1;have ho:=(hM.block u (lt_of_block U8.out) HNS8.out.2).trans U8.out;have o0:=cell_of ho 0;have o1:=cell_of ho 1;have o2:=cell_of ho 2;have o3:=cell_of ho 3;have o4:=cell_of ho 4;have o5:=cell_of ho 5;clear hM ho
     go_wp2_with (fail)
     refine⟨?_,id,id⟩;exact rfl
    ·kernel_rfl
   refine Seq.turn (a':=?_) ?_ ?_ ?_
   rotate_left
   ·intro w1 hw1
    have HM:=hid hw1.m
    have HTT:=hid hw1.t
    have HNW:=hid (node_mod HN8.out hw1.m (fun k e=>HT8.out.noRow k (.inl e)))
    clear hw1
    go_wp2_with (go_at_call 33;refine (set_inner w1 HTT.out HQR.out HNW.out HMB.out).mono ?_;rintro e w2 ⟨rfl,hT,hX⟩)
    refine⟨?_,HM.out.trans hX (fun _ _ h=>h),hT⟩
    exact rfl
   ·kernel_rfl
   iterate 0
    refine Seq.calm (a':=?_) (by decide) ?_ ?_ ?_
    rotate_left
    ·intro w1 hw1
     have hM:Mod (·=sg) w8 w1:=hw1.elim KidJ.m KidJ.m;have n0:=cell_of ((hM.block rb (lt_of_block R8.out) HNS8.out.1).trans R8.out) 0;have n1:=cell_of ((hM.block rb (lt_of_block R8.out) HNS8.out.1).trans R8.out) 1;have ho:=(hM.block u (lt_of_block U8.out) HNS8.out.2).trans U8.out;have o0:=cell_of ho 0;have o1:=cell_of ho 1;have o2:=cell_of ho 2;have o3:=cell_of ho 3;have o4:=cell_of ho 4;have o5:=cell_of ho 5;clear hM ho
     go_wp2_with (fail)
     refine⟨?_,id,id⟩;exact rfl
    ·kernel_rfl
   refine SeqI.nil ?_
   intro D w1 hD hI
   replace hI:=hI.done (hD 5 (by omega))
   clear hD
   dsimp only[List.drop]
   obtain⟨W9,hW9⟩:∃ W9,W9=w1:=⟨_,rfl⟩
   subst hW9
   obtain⟨hm9,l1,hT9,hR9⟩:=hI
   have R9:=hid ((hm9.block rb (lt_of_block R8.out) HNS8.out.1).trans R8.out)
   have L9:=hid ((hm9.block lb (lt_of_block L8.out) (show ¬ lb=sg by have:=HRB.out;omega)).trans L8.out)
   have HNB:=hid hnb
   have HS9:=hid (HS8.out.mod' hm9 (fun e=>HNB.out.1 (.inl e)) (fun e=>HNB.out.2 (.inl e)))
   have HM9:Hid (Mod (TOwn sg km) w W9):=hid (HM8.out.trans hm9 (fun _ _ e=>.inl e))
   have HT9:=hid hT9
   have HR9:=hid hR9
   have HRM9:=hid (z1w HRM.out HM9.out h0)
   have hlt:=HLT.out
   have hl9:=HM9.out.size
   have HLT9:Hid (t<W9.heap.size/\sb<W9.heap.size/\sg<W9.heap.size/\kb<W9.heap.size/\km<W9.heap.size):=hid (by omega)
   have HNB2:Hid (¬ TOwn sg km rb/\¬ TOwn sg km lb):=hid (by have:=HRB.out;refine⟨?_,?_⟩<;>rintro (e|e)<;>omega)
   have hes:(c.extract s.depth c.size).size=c.size - s.depth:=by simp
   have hxl:s.at_<c.size - s.depth:=by
    have:=(List.getElem?_eq_some_iff.1 HX.out).1
    rw[z1b] at this
    rw[<- hes]
    exact this
   have hri:∀ w,(Instr.index 9 (.string (c.extract s.depth c.size)) (.int .i64 s.at_)).run Tryz.prog w=.ok (.int .u8 (x.toNat:Int)) w:=fun w=>run_byte w _ (rst c s.depth) s.at_ x (by kernel_rfl) HX.out
   have HNF:=hid (fun w1=>nfork_at ((c.extract s.depth c.size).extract 0 s.at_) ⟨y.toNat,r.1,r.2⟩ ⟨x.toNat,lf.1,lf.2⟩ w1 (by simp;omega) hkr hkl (fun e=>hxy (UInt8.toNat_inj.1 (by have e':(y.toNat:Int)=x.toNat:=e;omega))))
   have HES:=hid hes
   have HXL:=hid hxl
   have HRI:=hid hri
   obtain⟨pr,hpr1,hpr2⟩:=HQR.out.noroom
   have HFJ:Hid (z2s (P.set ir ⟨true,⟨.z0k kr (ptr.extract (s.at_+1) ptr.size) Lr,plr,dir⟩,r.2⟩) (j:Int)):=hid (hF.set hpr1 hpr2 rfl)
   have hj1:(P.set ir ⟨true,⟨.z0k kr (ptr.extract (s.at_+1) ptr.size) Lr,plr,dir⟩,r.2⟩)[j]?=some pj:=by rw[List.getElem?_set_ne (fun e=>hji e.symm)];exact hj
   obtain⟨cj,hcj,_,hcg,hcr⟩:=hR9.cell hj1
   have HCJ:=hid (And.intro hcj (And.intro hcg (hcr.trans hjr)))
   have HRR:=hid (And.intro hr1 hr2)
   have HU1:=hid (fun w1 (hs1:SpotAt w1 b g wc s)=>up_at (k:=1) hs1 (by omega) HUL.out)
   have H0:=hid h0
   have HQU:=hid (hqu.z1g (c:=⟨true,⟨.z0k kr (ptr.extract (s.at_+1) ptr.size) Lr,plr,dir⟩,r.2⟩) hru)
   have HJU:=hid hju
   have HKJ:=hid hkj
   have HKF:=hid hkf
   have HKS:=hid (And.intro hks hkg)
   have HKN:=hid hkn
   have HKO:=hid hok
   clear hm9 hT9 hR9 hcj hcg hcr hes hxl hri hlt hl9 hnb hF hj hj1 hpr1 hpr2 hjr hr1 hr2 hkj hkf hks hkg hkn hok hqu hju h0 hkr hkl hxy
   go_wp2_with fail
   have hok:RJOk (TOwn sg km) (fun w1=>TreeAt w1 t sb sg kb km l1 L tk) (fun w1=>∃ gb gk,TreeAt w1 t sb sg kb km ((l1).set j ⟨true,(⟨2,⟨#[]⟩,⟨#[]⟩,((c.extract s.depth c.size).extract 0 s.at_),⟨some ⟨gb,0,none⟩,2,2⟩,⟨some ⟨gk,0,none⟩,2,2⟩,false,false⟩:Nd),pj.gen+1⟩) (K.addL L rr).2 tk/\O.NodeIn w1 2 ((c.extract s.depth c.size).extract 0 s.at_) (some ⟨gb,0,none⟩) 2 2 (some ⟨gk,0,none⟩) 2 2 (z1p ⟨y.toNat,r.1,r.2⟩ ⟨x.toNat,lf.1,lf.2⟩)/\W9.heap.size<=gb/\W9.heap.size<=gk) (fun w1 v=>∃ gb gk,v=.agg #[.int .i64 2,.string ⟨#[]⟩,.string ⟨#[]⟩,.string ((c.extract s.depth c.size).extract 0 s.at_),.slice (some ⟨gb,0,none⟩) 2 2,.slice (some ⟨gk,0,none⟩) 2 2]/\O.NodeIn w1 2 ((c.extract s.depth c.size).extract 0 s.at_) (some ⟨gb,0,none⟩) 2 2 (some ⟨gk,0,none⟩) 2 2 (z1p ⟨y.toNat,r.1,r.2⟩ ⟨x.toNat,lf.1,lf.2⟩)/\W9.heap.size<=gb/\W9.heap.size<=gk) W9 36 #[.int .i64 0,.int .u32 0]:=by
    have kn:∀ w w' gb gk,O.NodeIn w 2 ((c.extract s.depth c.size).extract 0 s.at_) (some ⟨gb,0,none⟩) 2 2 (some ⟨gk,0,none⟩) 2 2 (z1p ⟨y.toNat,r.1,r.2⟩ ⟨x.toNat,lf.1,lf.2⟩)->Below w.heap.size w w'->O.NodeIn w' 2 ((c.extract s.depth c.size).extract 0 s.at_) (some ⟨gb,0,none⟩) 2 2 (some ⟨gk,0,none⟩) 2 2 (z1p ⟨y.toNat,r.1,r.2⟩ ⟨x.toNat,lf.1,lf.2⟩):=fun w w' gb gk h hb=>h.keep hb
    have ko:∀ w w' u gb gk,w.heap[u]?=some (.cells #[.int .i64 0,.int .u32 0] 36 (0,0))->Mod (·=u) w w'->O.NodeIn w 2 ((c.extract s.depth c.size).extract 0 s.at_) (some ⟨gb,0,none⟩) 2 2 (some ⟨gk,0,none⟩) 2 2 (z1p ⟨y.toNat,r.1,r.2⟩ ⟨x.toNat,lf.1,lf.2⟩)->O.NodeIn w' 2 ((c.extract s.depth c.size).extract 0 s.at_) (some ⟨gb,0,none⟩) 2 2 (some ⟨gk,0,none⟩) 2 2 (z1p ⟨y.toNat,r.1,r.2⟩ ⟨x.toNat,lf.1,lf.2⟩):=fun w w' u gb gk hu hM h=>by
     have h1:gb≠u:=O.z1m h.b hu (by decide) gb rfl
     obtain⟨g',eg,_,hc⟩:=O.z0z h.z (by rw[forkK_len];omega)
     have h2:gk≠u:=fun e=>by
      have e2:gk=g':=by injection eg with eg;injection eg
      have hl3:3<(z2v (z1p ⟨y.toNat,r.1,r.2⟩ ⟨x.toNat,lf.1,lf.2⟩)).length:=by rw[kidsL_len,forkK_len];omega
      have:=hc 3 _ (List.getElem?_eq_getElem hl3)
      rw[<- e2,e,cell_of hu 3] at this
      simp at this
     exact⟨O.z0h h.b hM (fun k hk e=>by simp only[Value.ownBlock,Option.some.injEq] at hk;have:k=u:=e;omega),O.z0h h.z hM (fun k hk e=>by simp only[Value.ownBlock,Option.some.injEq] at hk;have:k=u:=e;omega),h.k1,h.k2,h.p,h.len,h.rise,h.ok⟩
    have kt:∀ w w' gb gk,W9.heap.size<=gb->W9.heap.size<=gk->Mod (TOwn sg km) w w'->O.NodeIn w 2 ((c.extract s.depth c.size).extract 0 s.at_) (some ⟨gb,0,none⟩) 2 2 (some ⟨gk,0,none⟩) 2 2 (z1p ⟨y.toNat,r.1,r.2⟩ ⟨x.toNat,lf.1,lf.2⟩)->O.NodeIn w' 2 ((c.extract s.depth c.size).extract 0 s.at_) (some ⟨gb,0,none⟩) 2 2 (some ⟨gk,0,none⟩) 2 2 (z1p ⟨y.toNat,r.1,r.2⟩ ⟨x.toNat,lf.1,lf.2⟩):=fun w w' gb gk l1 l2 hM h=>⟨O.z0h h.b hM (fun k hk=>by simp only[Value.ownBlock,Option.some.injEq] at hk;exact (fun {k:Nat} (hk:W9.heap.size<=k)=>(show ¬ TOwn sg km k by have:=HLT9.out;rintro (e|e)<;>omega)) (by omega)),O.z0h h.z hM (fun k hk=>by simp only[Value.ownBlock,Option.some.injEq] at hk;exact (fun {k:Nat} (hk:W9.heap.size<=k)=>(show ¬ TOwn sg km k by have:=HLT9.out;rintro (e|e)<;>omega)) (by omega)),h.k1,h.k2,h.p,h.len,h.rise,h.ok⟩
    have hl:=HLT9.out
    refine⟨fun w w' h hb=>h.keep hb,?_,?_,fun w w' u hu hc hM h=>h.mod hM (show ¬ t=u by omega) (show ¬ sb=u by omega) (show ¬ sg=u by omega) (show ¬ kb=u by omega) (show ¬ km=u by omega),?_,?_,?_,?_⟩
    ·rintro w w' ⟨gb,gk,h1,h2,h3⟩ hb
     exact⟨gb,gk,h1.keep hb,kn _ _ _ _ h2 hb,h3⟩
    ·rintro w w' v ⟨gb,gk,h1,h2,h3⟩ hb
     exact⟨gb,gk,h1,kn _ _ _ _ h2 hb,h3⟩
    ·rintro w w' u hu hc hM ⟨gb,gk,h1,h2,h3⟩
     exact⟨gb,gk,h1.mod hM (show ¬ t=u by omega) (show ¬ sb=u by omega) (show ¬ sg=u by omega) (show ¬ kb=u by omega) (show ¬ km=u by omega),ko _ _ _ _ _ hc hM h2,h3⟩
    ·rintro w w' u v hu hc hM ⟨gb,gk,h1,h2,h3⟩
     exact⟨gb,gk,h1,ko _ _ _ _ _ hc hM h2,h3⟩
    ·rintro w w' v hM ⟨gb,gk,h1,h2,h3⟩
     exact⟨gb,gk,h1,kt _ _ _ _ h3.1 h3.2 hM h2,h3⟩
    ·rintro k (e|e)<;>omega
   have HOK:=hid hok
   clear hok
   refine z0r 26 [18,23] (fun xs=>[.pointer (some ⟨t,0,none⟩),.pointer (some ⟨t,0,none⟩),.pointer (some ⟨t,0,none⟩),.string (c.extract s.depth c.size),.pointer (some ⟨b,0,none⟩),.pointer (some ⟨b,0,none⟩),.pointer (some ⟨b,2,none⟩),.int .i64 s.at_,.string ((c.extract s.depth c.size).extract 0 s.at_),.int .u8 y.toNat,.agg #[.int .i64 r.1,.int .u32 r.2],.string (c.extract s.depth c.size),.pointer (some ⟨b,0,none⟩),.pointer (some ⟨b,0,none⟩),.pointer (some ⟨b,2,none⟩),.int .i64 s.at_,.int .u8 x.toNat,.agg #[.int .i64 lf.1,.int .u32 lf.2],xs 18,.tuple #[.agg #[.int .i64 j,.int .u32 (pj.gen+1)],.int .i64 0],.tuple #[.agg #[.int .i64 j,.int .u32 (pj.gen+1)],.int .i64 0],.agg #[.int .i64 j,.int .u32 (pj.gen+1)],.int .i64 0,xs 23,undef,.int .i64 0]) (RJ (TOwn sg km) (fun w1=>TreeAt w1 t sb sg kb km l1 L tk) (fun w1=>∃ gb gk,TreeAt w1 t sb sg kb km ((l1).set j ⟨true,(⟨2,⟨#[]⟩,⟨#[]⟩,((c.extract s.depth c.size).extract 0 s.at_),⟨some ⟨gb,0,none⟩,2,2⟩,⟨some ⟨gk,0,none⟩,2,2⟩,false,false⟩:Nd),pj.gen+1⟩) (K.addL L rr).2 tk/\O.NodeIn w1 2 ((c.extract s.depth c.size).extract 0 s.at_) (some ⟨gb,0,none⟩) 2 2 (some ⟨gk,0,none⟩) 2 2 (z1p ⟨y.toNat,r.1,r.2⟩ ⟨x.toNat,lf.1,lf.2⟩)/\W9.heap.size<=gb/\W9.heap.size<=gk) (fun w1 v=>∃ gb gk,v=.agg #[.int .i64 2,.string ⟨#[]⟩,.string ⟨#[]⟩,.string ((c.extract s.depth c.size).extract 0 s.at_),.slice (some ⟨gb,0,none⟩) 2 2,.slice (some ⟨gk,0,none⟩) 2 2]/\O.NodeIn w1 2 ((c.extract s.depth c.size).extract 0 s.at_) (some ⟨gb,0,none⟩) 2 2 (some ⟨gk,0,none⟩) 2 2 (z1p ⟨y.toNat,r.1,r.2⟩ ⟨x.toNat,lf.1,lf.2⟩)/\W9.heap.size<=gb/\W9.heap.size<=gk) W9 36 #[.int .i64 0,.int .u32 0] (fun _=>#[.int .i64 j,.int .u32 (pj.gen+1)]) false 18 19 23 24 [] [] (fun _=>undef) (fun _ x=>x)) ?h0 (fun xs ys h=>by simp[h]) ?hs ?hend
   case h0=>exact RJ.start (HT9.out.keep (Below.refl _ _).drew)
   case hs =>
    dsimp only[List.take,z1c,OpT,z1s]
    (repeat' refine And.intro ?_ ?_)<;>first|refine .inl ⟨rfl,?_⟩|refine .inr ⟨rfl,?_⟩
    iterate 18
     ·intro D xs w1 hDk hwt hJ
      have s2:=cell_of (HS9.out.mod' hJ.m HNB.out.1 HNB.out.2).h 2;have hR:=(hJ.m.block rb (lt_of_block R9.out) HNB2.out.1).trans R9.out;have n0:=cell_of hR 0;have n1:=cell_of hR 1;have hL:=(hJ.m.block lb (lt_of_block L9.out) HNB2.out.2).trans L9.out;have m0:=cell_of hL 0;have m1:=cell_of hL 1;have hxl:=HXL.out;have hes:=HES.out;have hri:=HRI.out;clear hR hL
      have HJ:=hid hJ
      clear hDk hwt hJ
      go_wp2_with fail
      exact⟨by kernel_rfl,fun _ _=>RJ.calm HOK.out HJ.out (Below.refl _ _)⟩
    ·intro D xs w1 hDk hwt hJ
     have hD:D 18=false:=hDk
     have hsz:=hJ.m.size
     have HJ:=hid hJ
     clear hDk hwt hJ
     go_wp2_with (go_at_call 72;refine (HNF.out _).mono ?_;rintro e w2 ⟨gb,gk,rfl,hN2,hb2,hgb,hgk⟩)
     exact⟨_,by kernel_rfl,fun q hq=>by obtain rfl:=hq rfl;exact RJ.call HOK.out HJ.out (.inr fun _ _=>rfl) hD ⟨gb,gk,rfl,hN2,by omega,by omega⟩ hb2⟩
    ·intro D xs w1 hDk hwt hJ
     have hD:D 19=false:=hDk
     obtain⟨gb,gk,ea,hN,hgb,hgk⟩:=hJ.l (hwt 18 (eM (by kernel_rfl)))
     rw[ea]
     have hp:=hJ.p
     rw[hD] at hp
     simp only[cond_false] at hp
     have htk:=take_at 2 ⟨#[]⟩ ⟨#[]⟩ ((c.extract s.depth c.size).extract 0 s.at_) (some ⟨gb,0,none⟩) (some ⟨gk,0,none⟩) 2 2 2 2 false w1 hp (HR9.out.first HFJ.out) HCJ.out.1 HCJ.out.2.2 rr HRR.out.1 (by rw[HRR.out.2,HCJ.out.2.1])
     rw[HCJ.out.2.1] at htk
     have HTK:=hid htk
     have HEA:=hid ea
     have HN:=hid hN
     clear hp htk ea hN
     have HJ:=hid hJ
     clear hDk hwt hJ
     go_wp2_with (go_at_call 34;refine HTK.out.mono ?_;rintro e w2 ⟨rfl,hT2,hM2⟩)
     have hl9:=HLT9.out
     have hp1:(fun w1=>∃ gb gk,TreeAt w1 t sb sg kb km ((l1).set j ⟨true,(⟨2,⟨#[]⟩,⟨#[]⟩,((c.extract s.depth c.size).extract 0 s.at_),⟨some ⟨gb,0,none⟩,2,2⟩,⟨some ⟨gk,0,none⟩,2,2⟩,false,false⟩:Nd),pj.gen+1⟩) (K.addL L rr).2 tk/\O.NodeIn w1 2 ((c.extract s.depth c.size).extract 0 s.at_) (some ⟨gb,0,none⟩) 2 2 (some ⟨gk,0,none⟩) 2 2 (z1p ⟨y.toNat,r.1,r.2⟩ ⟨x.toNat,lf.1,lf.2⟩)/\W9.heap.size<=gb/\W9.heap.size<=gk) w2:=⟨gb,gk,hT2,⟨O.z0h HN.out.b hM2 (fun k hk=>by simp only[Value.ownBlock,Option.some.injEq] at hk;exact (fun {k:Nat} (hk:W9.heap.size<=k)=>(show ¬ TOwn sg km k by have:=HLT9.out;rintro (e|e)<;>omega)) (by omega)),O.z0h HN.out.z hM2 (fun k hk=>by simp only[Value.ownBlock,Option.some.injEq] at hk;exact (fun {k:Nat} (hk:W9.heap.size<=k)=>(show ¬ TOwn sg km k by have:=HLT9.out;rintro (e|e)<;>omega)) (by omega)),HN.out.k1,HN.out.k2,HN.out.p,HN.out.len,HN.out.rise,HN.out.ok⟩,hgb,hgk⟩
     exact⟨by kernel_rfl,fun q hq=>by obtain rfl:=hq rfl;exact RJ.turn HOK.out HJ.out hp1 hM2⟩
    iterate 3
     ·intro D xs w1 hDk hwt hJ
      skip
      have HJ:=hid hJ
      clear hDk hwt hJ
      go_wp2_with fail
      exact⟨by kernel_rfl,fun _ _=>RJ.calm HOK.out HJ.out (Below.refl _ _)⟩
    ·intro D xs w1 hDk hwt hJ
     have hD:D 23=false:=hDk
     have HJ:=hid hJ
     clear hDk hwt hJ
     go_wp2_with fail
     exact⟨_,by kernel_rfl,fun q hq=>by obtain rfl:=hq rfl;exact RJ.alloc HOK.out HJ.out hD⟩
    ·intro D xs w1 hDk hwt hJ
     have hD:D 24=false:=hDk
     have hA:=hwt 23 (eM (by kernel_rfl))
     obtain⟨b0,hb0,eb0,hc0⟩:=hJ.a hA
     rw[eb0]
     have HEB:=hid eb0
     clear eb0
     rw[hD] at hc0
     simp only[cond_false] at hc0
     have q0:=cell_of hc0 0
     have q1:=cell_of hc0 1
     have qf:=z0e hc0
     have HC:=hid hc0
     clear hc0
     have HJ:=hid hJ
     clear hDk hwt hJ
     go_wp2_with fail
     obtain⟨m1,m2⟩:=set2_mod (v:=.int .i64 j) (v':=.int .u32 (pj.gen+1)) HC.out
     exact⟨by kernel_rfl,fun q _=>RJ.store HOK.out HJ.out hD (fun e=>by cases e) hA HEB.out m2 m1⟩
    ·intro D xs w1 hDk hwt hJ
     skip
     have HJ:=hid hJ
     clear hDk hwt hJ
     go_wp2_with fail
     exact⟨by kernel_rfl,fun _ _=>RJ.calm HOK.out HJ.out (Below.refl _ _)⟩
   case hend =>
    intro D xs w10 hD hJ
    have hp:=hJ.p
    rw[hD 19 (by omega)] at hp
    simp only[cond_true] at hp
    obtain⟨gb,gk,hTA,hN,hgb,hgk⟩:=hp
    obtain⟨u,hu,eu,hc⟩:=hJ.a (hD 23 (by omega))
    rw[hD 24 (by omega)] at hc
    simp only[cond_true] at hc
    have hM:=hJ.m
    have HP10:Hid (z0s w10 t sb sg kb km (((P.set ir ⟨true,⟨.z0k kr (ptr.extract (s.at_+1) ptr.size) Lr,plr,dir⟩,r.2⟩)).set j ⟨true,⟨.z0k 2 ((rst c s.depth).extract 0 s.at_) (z1p ⟨y.toNat,r.1,r.2⟩ ⟨x.toNat,lf.1,lf.2⟩),false,false⟩,pj.gen+1⟩) (K.addL L rr).2 tk):=hid ⟨_,hTA,Rel.set (x:=(⟨2,⟨#[]⟩,⟨#[]⟩,((c.extract s.depth c.size).extract 0 s.at_),⟨some ⟨gb,0,none⟩,2,2⟩,⟨some ⟨gk,0,none⟩,2,2⟩,false,false⟩:Nd)) (q:=⟨.z0k 2 ((rst c s.depth).extract 0 s.at_) (z1p ⟨y.toNat,r.1,r.2⟩ ⟨x.toNat,lf.1,lf.2⟩),false,false⟩) (HR9.out.mod hM HT9.out.noRow) true (fun _=>⟨rfl,rfl,rfl,rfl,rfl,rfl,hN,forkK_may _ _ _⟩)⟩
    have HS10:=hid (HS9.out.mod' hM HNB.out.1 HNB.out.2)
    have R10:=hid ((hM.block rb (lt_of_block R9.out) HNB2.out.1).trans R9.out)
    have U10:Hid (w10.heap[u]?=some (.cells #[.int .i64 j,.int .u32 (pj.gen+1)] 36 (0,0))):=hid hc
    have HRM10:=hid (z1w HRM9.out hM H0.out)
    have HM10:=hid (HM9.out.trans hM (fun _ _ h=>h))
    have hlt9:=HLT9.out
    have HNS:Hid (¬ rb=sg/\¬ u=sg/\¬ b=sg/\¬ g=sg):=hid ⟨fun e=>HNB2.out.1 (.inl e),by omega,fun e=>HNB.out.1 (.inl e),fun e=>HNB.out.2 (.inl e)⟩
    have HLU:Hid (z0l (((P.set ir ⟨true,⟨.z0k kr (ptr.extract (s.at_+1) ptr.size) Lr,plr,dir⟩,r.2⟩)).set j ⟨true,⟨.z0k 2 ((rst c s.depth).extract 0 s.at_) (z1p ⟨y.toNat,r.1,r.2⟩ ⟨x.toNat,lf.1,lf.2⟩),false,false⟩,pj.gen+1⟩) u0.1 u0.2 iu ⟨.z0k k pt Lk,pl,di⟩):=hid (by obtain⟨e,p,h1,h2⟩:=HQU.out;exact⟨e,p,by rw[List.getElem?_set_ne HJU.out];exact h1,h2⟩)
    dsimp only[List.take,z1s,List.drop]
    rw[eu]
    clear hD hJ hTA hN hgb hgk hu eu hc hM hlt9 HOK
    go_wp2_with fail
    refine z0f 8 (Turn 7 (KidJ w10 t sb sg kb km (((P.set ir ⟨true,⟨.z0k kr (ptr.extract (s.at_+1) ptr.size) Lr,plr,dir⟩,r.2⟩)).set j ⟨true,⟨.z0k 2 ((rst c s.depth).extract 0 s.at_) (z1p ⟨y.toNat,r.1,r.2⟩ ⟨x.toNat,lf.1,lf.2⟩),false,false⟩,pj.gen+1⟩) (K.addL L rr).2 tk) (KidJ w10 t sb sg kb km (((((P.set ir ⟨true,⟨.z0k kr (ptr.extract (s.at_+1) ptr.size) Lr,plr,dir⟩,r.2⟩)).set j ⟨true,⟨.z0k 2 ((rst c s.depth).extract 0 s.at_) (z1p ⟨y.toNat,r.1,r.2⟩ ⟨x.toNat,lf.1,lf.2⟩),false,false⟩,pj.gen+1⟩)).set iu ⟨true,⟨.z0k k pt (z1t Lk kk.b j (pj.gen+1)),pl,di⟩,u0.2⟩) (K.addL L rr).2 tk)) (by kernel_rfl) (by kernel_rfl) (by kernel_rfl) (Turn.start ⟨(Mod.refl (·=sg) w10).drew,HP10.out.keep (Below.refl _ _).drew⟩) ?_
    dsimp only[List.take]
    iterate 7
     refine Seq.calm (a':=?_) (by decide) ?_ ?_ ?_
     rotate_left
     ·intro w1 hw1
      have hM:Mod (·=sg) w10 w1:=hw1.elim KidJ.m KidJ.m;have n0:=cell_of ((hM.block rb (lt_of_block R10.out) HNS.out.1).trans R10.out) 0;have n1:=cell_of ((hM.block rb (lt_of_block R10.out) HNS.out.1).trans R10.out) 1;have m0:=cell_of ((hM.block u (lt_of_block U10.out) HNS.out.2.1).trans U10.out) 0;have m1:=cell_of ((hM.block u (lt_of_block U10.out) HNS.out.2.1).trans U10.out) 1;have HUX:=hid (HU1.out w1 (HS10.out.mod' hM HNS.out.2.2.1 HNS.out.2.2.2));clear hM
      go_wp2_with (go_at_call 31;refine HUX.out.mono ?_;rintro e w' ⟨rfl,hb⟩)
      first|(refine⟨?_,id,id⟩;exact rfl)|(refine⟨?_,(fun h=>KidJ.keep h hb),(fun h=>KidJ.keep h hb)⟩;exact rfl)
     ·kernel_rfl
    refine Seq.turn (a':=?_) ?_ ?_ ?_
    rotate_left
    ·intro w1 hw1
     have HM:=hid hw1.m
     have HTT:=hid hw1.t
     have HRMX:=hid (z1w HRM10.out hw1.m (fun e=>H0.out (.inl e)))
     clear hw1
     go_wp2_with (go_at_call 38;refine (kid_P u0.1 u0.2 r.1 r.2 j (pj.gen+1) w1 HTT.out HRMX.out HLU.out HKJ.out HKF.out HKS.out.1 HKS.out.2 HKN.out HKO.out).mono ?_;rintro e w2 ⟨rfl,hT,hX⟩)
     refine⟨?_,HM.out.trans hX (fun _ _ h=>h),hT⟩
     exact rfl
    ·kernel_rfl
    iterate 0
     refine Seq.calm (a':=?_) (by decide) ?_ ?_ ?_
     rotate_left
     ·intro w1 hw1
      have hM:Mod (·=sg) w10 w1:=hw1.elim KidJ.m KidJ.m;have n0:=cell_of ((hM.block rb (lt_of_block R10.out) HNS.out.1).trans R10.out) 0;have n1:=cell_of ((hM.block rb (lt_of_block R10.out) HNS.out.1).trans R10.out) 1;have m0:=cell_of ((hM.block u (lt_of_block U10.out) HNS.out.2.1).trans U10.out) 0;have m1:=cell_of ((hM.block u (lt_of_block U10.out) HNS.out.2.1).trans U10.out) 1;have HUX:=hid (HU1.out w1 (HS10.out.mod' hM HNS.out.2.2.1 HNS.out.2.2.2));clear hM
      go_wp2_with (go_at_call 31;refine HUX.out.mono ?_;rintro e w' ⟨rfl,hb⟩)
      first|(refine⟨?_,id,id⟩;exact rfl)|(refine⟨?_,(fun h=>KidJ.keep h hb),(fun h=>KidJ.keep h hb)⟩;exact rfl)
     ·kernel_rfl
    refine SeqI.nil ?_
    intro D w1 hD hI
    replace hI:=hI.done (hD 7 (by omega))
    clear hD
    dsimp only[List.drop]
    have HI:=hid hI
    clear hI
    go_wp2_with fail
    go_end0
    exact⟨rfl,HI.out.t,HM10.out.trans HI.out.m (fun _ _ h=>.inl h)⟩
end Go.Proofs.YtgdmfledhhoedaaGreatDoor.T
namespace Go.Burg
open Go Go.RowKit
open Go.Proofs.YtgdmfledhhoedaaGreatDoor.T (z1p)
def LtB (a b:List UInt8):Prop:=∃ p x y r r',a=p++x :: r/\b=p++y :: r'/\x<y
variable {a pre:List UInt8}
theorem LtB.irrefl:¬ LtB a a:=by
 rintro ⟨p,x,y,r,r',h1,h2,h3⟩
 rw[h1] at h2
 have:=List.append_cancel_left h2
 injection this with e _
 subst e
 exact absurd h3 (UInt8.lt_irrefl x)
def Up (E:Ents):Prop:=E.Pairwise fun a b=>LtB (byt a.1) (byt b.1)
theorem LtB.of_prefix {p:List UInt8} {x y:UInt8} {b:List UInt8} (ha:p++[x] <+: a) (hb:p++[y] <+: b) (h:x<y):LtB a b:=by
 obtain⟨r,rfl⟩:=ha
 obtain⟨r',rfl⟩:=hb
 exact⟨p,x,y,r,r',by simp,by simp,h⟩
variable {E E1 E2 Eu:Ents} {g gj gm gp s:Int} {P:List (Cel PNd)} {i j k kp m n:Nat}
theorem Sub.up {pl:Bool} {S:Nat->Prop} (h:Sub P i g pl pre S E):Up E:=by
 induction h with
 | leaf=>exact List.pairwise_singleton _ _
 | @node i g k pt L pl pre ki Ss Es h hk hsub d1 d2 hr hok hl hn ha ih =>
  unfold Up
  rw[List.pairwise_flatMap]
  refine⟨fun j hj=>ih j _ (List.getElem?_eq_getElem (List.mem_range.1 hj)),?_⟩
  refine List.Pairwise.imp_of_mem ?_ (List.pairwise_lt_range (n:=L.length))
  intro a b ha' hb' hab x hx y hy
  have la:=List.mem_range.1 ha'
  have lb:=List.mem_range.1 hb'
  have sa:=hsub a _ (List.getElem?_eq_getElem la)
  have sb:=hsub b _ (List.getElem?_eq_getElem lb)
  have hlt:=List.pairwise_iff_getElem.1 hr a b la lb hab
  have oa:=(hok _ (List.getElem_mem la)).1
  have ob:=(hok _ (List.getElem_mem lb)).1
  refine LtB.of_prefix (sa.mem x hx).1 (sb.mem y hy).1 ?_
  unfold Kd.byte
  rw[UInt8.lt_iff_toNat_lt]
  simp
  omega
variable {c pt ptp v:ByteArray}
theorem Up.ne (h:Up (E1++([(c,v)]++E2))):∀ e,e∈E1++E2->e.1≠c:=by
 intro e he hc
 unfold Up at h
 rw[List.pairwise_append] at h
 obtain⟨_,h2,h3⟩:=h
 rcases List.mem_append.1 he with he|he
 ·have:=h3 e he (c,v) (by simp)
  rw[hc] at this
  exact this.irrefl
 ·have:=(List.pairwise_cons.1 h2).1 e he
  rw[<- hc] at this
  exact this.irrefl
theorem fork_ins {x y:Kd} (h:x.b≠y.b):insK [x] y=z1p x y:=by
 unfold z1p
 by_cases h1:x.b<y.b
 ·rw[if_pos h1]
  simp[insK,List.takeWhile_cons,List.dropWhile_cons,ltK,h1]
 ·rw[if_neg h1]
  have h2:¬ x.b<y.b:=h1
  simp[insK,List.takeWhile_cons,List.dropWhile_cons,ltK,h1]
variable {L Lp:List Kd}
section
variable {P P':List (Cel PNd)} {pre:List UInt8}
theorem Sub.shorten {u:Nat} {gu:Int} {pt':ByteArray} {Su:Nat->Prop} {b:UInt8} (h:Sub P u gu false pre Su Eu) (hu:z0l P u gu u ⟨.z0k k pt L,false,false⟩) (hb:byt pt=a++[b]++byt pt') (h':z0l P' u gu u ⟨.z0k k pt' L,false,false⟩) (hf:∀ x,Su x->x≠u->P'[x]?=P[x]?) :
 Sub P' u gu false (pre++a++[b]) Su Eu:=by
 cases h with
 | leaf hl=>have:=(hu.uniq hl).2;cases this
 | @node _ _ k2 pt2 L2 _ _ ki Ss Es hl hk hsub d1 d2 hr hok hL hn ha =>
  have e:=(hu.uniq hl).2
  injection e with e1 _ _
  injection e1 with e2 e3 e4
  subst e2 e3 e4
  refine Sub.node h' hk (fun j kd hj=>?_) d1 d2 hr hok hL (fun e=>?_) (fun e=>by cases e)
  ·have:=hsub j kd hj
   rw[hb] at this
   have e5:pre++a++[b]++byt pt'++[kd.byte]=pre++(a++[b]++byt pt')++[kd.byte]:=by simp
   rw[e5]
   have hjl:=(List.getElem?_eq_some_iff.1 hj).1
   exact this.frame fun x hx=>hf x (.inr ⟨j,hjl,hx⟩) (d1 j x hjl hx)
  ·obtain⟨n1,n2,n3⟩:=hn e
   refine⟨n1,n2,?_⟩
   have:=congrArg List.length hb
   simp[z1b] at this
   omega
theorem Sub.fork {nx ny:Nat} {gx gy:Int} {bx by_:UInt8} {Sx Sy:Nat->Prop} {Ex Ey:Ents} (hx:Sub P nx gx false (pre++byt pt++[bx]) Sx Ex) (hy:Sub P ny gy false (pre++byt pt++[by_]) Sy Ey) (hne:bx≠by_) (hm:z0l P m gm m ⟨.z0k 2 pt (z1p ⟨bx.toNat,nx,gx⟩ ⟨by_.toNat,ny,gy⟩),false,false⟩)
 (d1:∀ z,Sx z->z≠m) (d2:∀ z,Sy z->z≠m/\¬ Sx z) (okx:(⟨bx.toNat,nx,gx⟩:Kd).ok) (oky:(⟨by_.toNat,ny,gy⟩:Kd).ok) (hp:pt.size<=34) :
 ∃ S' E',Sub P m gm false pre S' E'/\E'.Perm (Ey++Ex)/\∀ z,S' z->z=m\/Sy z\/Sx z:=by
 have hb:((⟨bx.toNat,nx,gx⟩:Kd).b)≠(⟨by_.toNat,ny,gy⟩:Kd).b:=fun e=>hne (UInt8.toNat_inj.1 (by have e':(bx.toNat:Int)=by_.toNat:=e;omega))
 have e1:(⟨(bx.toNat:Int),nx,gx⟩:Kd).byte=bx:=kd_byte rfl
 have e2:(⟨(by_.toNat:Int),ny,gy⟩:Kd).byte=by_:=kd_byte rfl
 have at0:∀ {j:Nat} {kd:Kd},[(⟨(bx.toNat:Int),nx,gx⟩:Kd)][j]?=some kd->j=0/\kd=⟨bx.toNat,nx,gx⟩:=fun {j kd} h=>by
  have:=(List.getElem?_eq_some_iff.1 h).1
  obtain rfl:j=0:=by simp at this;omega
  exact⟨rfl,(Option.some.inj h).symm⟩
 obtain⟨S',E',h1,h2,h3⟩:=Sub.more (P:=P) (P':=P) (u:=m) (gu:=gm) (k':=2) (pt:=pt) (pl:=false) (pre:=pre) (L:=[⟨bx.toNat,nx,gx⟩]) (ki:=fun _=>nx) (Ss:=fun _=>Sx) (Es:=fun _=>Ex) (x:=(by_.toNat:Int)) (n:=ny) (gn:=gy)
  (fun j kd h=>by obtain⟨_,rfl⟩:=at0 h;rfl) (fun j kd h=>by obtain⟨_,rfl⟩:=at0 h;rw[e1];exact hx) (fun j j' x h h' _ _=>by simp at h h';omega)
  (List.pairwise_singleton _ _) (fun kd hkd=>by simp at hkd;subst hkd;exact okx) (by rw[e2];exact hy) (by rw[fork_ins hb];exact hm) (by
   unfold z0p
   refine List.find?_eq_none.2 fun z hz=>?_
   simp at hz
   subst hz
   simpa using hb)
  (fun _ _ _ _=>rfl) (fun j z _ hz=>d1 z hz) (fun z hz=>⟨(d2 z hz).1,fun j _=>(d2 z hz).2⟩) oky (by simp) (fun _=>⟨by simp,by simp[kindOf],hp⟩) (fun e=>by cases e)
 refine⟨S',E',h1,by simpa using h2,fun z hz=>?_⟩
 rcases h3 z hz with h|h|⟨j,_,h⟩
 ·exact .inl h
 ·exact .inr (.inl h)
 ·exact .inr (.inr h)
end
theorem first_ex {α:Type}:∀ {P:List (Cel α)},1<=z1j P->∃ (j:Nat) (pj:Cel α),z2s P (j:Int)/\P[j]?=some pj/\pj.room=true
 | [],h=>by simp[z1j] at h
 | p :: P,h=>by
  cases hp:p.room with
  | true=>exact⟨0,p,.inl ⟨0,p,rfl,rfl,hp,fun j hj=>by omega⟩,rfl,hp⟩
  | false =>
   have h':1<=z1j P:=by
    unfold z1j at h ⊢
    rw[List.filter_cons] at h
    simpa[hp] using h
   obtain⟨j,pj,h1,h2,h3⟩:=first_ex h'
   refine⟨j+1,pj,.inl ⟨j+1,pj,rfl,h2,h3,fun m hm d hd=>?_⟩,h2,h3⟩
   cases m with
   | zero=>cases hd;exact hp
   | succ m =>
    rcases h1 with ⟨k,c,e,_,_,hb⟩|⟨e,_⟩
    ·exact hb m (by omega) d (by simpa using hd)
    ·omega
theorem roomN_set {α:Type}:∀ {P:List (Cel α)} {j:Nat} {p c:Cel α},P[j]?=some p->p.room=true->c.room=false->z1j (P.set j c)+1=z1j P
 | [],j,p,c,h,_,_=>by simp at h
 | a :: P,0,p,c,h,hp,hc=>by
  cases h
  unfold z1j
  rw[List.set_cons_zero,List.filter_cons,List.filter_cons]
  simp[hp,hc]
 | a :: P,j+1,p,c,h,hp,hc=>by
  have:=roomN_set (P:=P) (j:=j) (c:=c) (by simpa using h) hp hc
  unfold z1j at this ⊢
  rw[List.set_cons_succ,List.filter_cons,List.filter_cons]
  cases a.room<;>simp<;>omega
theorem roomN_same {α:Type}:∀ {P:List (Cel α)} {j:Nat} {p c:Cel α},P[j]?=some p->p.room=false->c.room=false->z1j (P.set j c)=z1j P
 | [],j,p,c,h,_,_=>by simp at h
 | a :: P,0,p,c,h,hp,hc=>by
  cases h
  unfold z1j
  rw[List.set_cons_zero,List.filter_cons,List.filter_cons]
  simp[hp,hc]
 | a :: P,j+1,p,c,h,hp,hc=>by
  have:=roomN_same (P:=P) (j:=j) (c:=c) (by simpa using h) hp hc
  unfold z1j at this ⊢
  rw[List.set_cons_succ,List.filter_cons,List.filter_cons]
  cases a.room<;>simp<;>omega
theorem rise_room (hr:Rise L) (hok:∀ x∈L,x.ok):L.length<=256:=by
 have key:∀ (j:Nat) (hj:j<L.length),(j:Int)<=L[j].b:=by
  intro j
  induction j with
  | zero=>intro hj;exact (hok _ (List.getElem_mem hj)).1.1
  | succ j ih =>
   intro hj
   have h1:=ih (by omega)
   have h2:=List.pairwise_iff_getElem.1 hr j (j+1) (by omega) hj (by omega)
   omega
 by_cases h0:L.length=0
 ·omega
 ·have h1:=key (L.length - 1) (by omega)
  have h2:=(hok _ (List.getElem_mem (show L.length - 1<L.length by omega))).1.2
  omega
theorem comL_full1:∀ {l m:List UInt8},comL l m=l.length->l <+: m
 | [],m,_=>List.nil_prefix
 | x :: l,[],h=>by simp[comL] at h
 | x :: l,y :: m,h=>by
  unfold comL at h
  split at h
  ·rename_i e
   subst e
   exact List.cons_prefix_cons.2 ⟨rfl,comL_full1 (by simpa using h)⟩
  ·simp at h
theorem comL_take:∀ (l m:List UInt8),l.take (comL l m)=m.take (comL l m)
 | [],m=>by simp[comL]
 | x :: l,[]=>by simp[comL]
 | x :: l,y :: m=>by
  unfold comL
  split
  ·rename_i e
   subst e
   simp[comL_take l m]
  ·simp
theorem byt_ext (b:ByteArray) (n:Nat):byt (b.extract 0 n)=(byt b).take n:=by
 unfold byt
 have e1:(b.extract 0 n).data=b.data.extract 0 n:=by simp
 rw[e1,Array.toList_extract,List.extract_eq_take_drop]
 simp
theorem byt_inj {a b:ByteArray} (h:byt a=byt b):a=b:=by
 cases a
 cases b
 simp only[byt] at h
 rw[Array.toList_inj.1 h]
theorem take_one {r:List UInt8} {x:UInt8} (h:r[n]?=some x):r.take n++[x] <+: r:=by
 obtain⟨hl,rfl⟩:=List.getElem?_eq_some_iff.1 h
 refine⟨r.drop (n+1),?_⟩
 rw[List.append_assoc,List.singleton_append,<- List.drop_eq_getElem_cons hl,List.take_append_drop]
section
variable {c cd pt:ByteArray} {pre:List UInt8}
theorem rst_pre (hp:pre <+: byt c):byt c=pre++byt (rst c pre.length):=by
 obtain⟨r,hr⟩:=hp
 rw[byt_rst,<- hr]
 simp
theorem part_leaf (hc:z2l c) (hd:z2l cd) (hp:pre <+: byt c) (hq:pre <+: byt cd) (hne:cd≠c) :
 ∃ x y,(byt (rst c pre.length))[com (rst c pre.length) (rst cd pre.length)]?=some x/\(byt cd)[pre.length+com (rst c pre.length) (rst cd pre.length)]?=some y/\x≠y /\
  pre++byt ((rst c pre.length).extract 0 (com (rst c pre.length) (rst cd pre.length)))++[x] <+: byt c/\pre++byt ((rst c pre.length).extract 0 (com (rst c pre.length) (rst cd pre.length)))++[y] <+: byt cd:=by
 have e1:=rst_pre hp
 have e2:=rst_pre hq
 generalize hn:com (rst c pre.length) (rst cd pre.length)=n
 have hn':comL (byt (rst c pre.length)) (byt (rst cd pre.length))=n:=hn
 rw[byt_ext]
 generalize byt (rst c pre.length)=r at *
 generalize byt (rst cd pre.length)=r' at *
 have n1:¬ r <+: r':=fun h=>hne (byt_inj (hc.prefix hd (by rw[e1,e2];exact (List.prefix_append_right_inj pre).2 h)).symm)
 have n2:¬ r' <+: r:=fun h=>hne (byt_inj (hd.prefix hc (by rw[e1,e2];exact (List.prefix_append_right_inj pre).2 h)))
 have l1:=comL_le1 r r'
 have l2:=comL_le2 r r'
 have lt1:n<r.length:=by
  rcases Nat.lt_or_ge n r.length with h|h
  ·exact h
  ·exact absurd (comL_full1 (by omega)) n1
 have lt2:n<r'.length:=by
  rcases Nat.lt_or_ge n r'.length with h|h
  ·exact h
  ·exact absurd (comL_full (by omega)) n2
 have g1:r[n]?=some r[n]:=List.getElem?_eq_getElem lt1
 have g2:r'[n]?=some r'[n]:=List.getElem?_eq_getElem lt2
 refine⟨r[n],r'[n],g1,?_,comL_end r r' _ _ (by rw[hn'];exact g1) (by rw[hn'];exact g2),?_,?_⟩
 ·rw[e2,List.getElem?_append_right (by omega),Nat.add_sub_cancel_left]
  exact g2
 ·rw[e1,List.append_assoc]
  exact (List.prefix_append_right_inj pre).2 (take_one g1)
 ·have e3:=comL_take r r'
  rw[hn'] at e3
  rw[e2,List.append_assoc,e3]
  exact (List.prefix_append_right_inj pre).2 (take_one g2)
theorem part_path {e:ByteArray} (hc:z2l c) (he:z2l e) (hp:pre <+: byt c) (hq:∃ z,pre++byt pt++[z] <+: byt e) (hlt:com (rst c pre.length) pt<pt.size) :
 ∃ x y,(byt (rst c pre.length))[com (rst c pre.length) pt]?=some x/\(byt pt)[com (rst c pre.length) pt]?=some y/\x≠y /\
  pre++byt ((rst c pre.length).extract 0 (com (rst c pre.length) pt))++[x] <+: byt c/\byt pt=byt ((rst c pre.length).extract 0 (com (rst c pre.length) pt))++[y]++(byt pt).drop (com (rst c pre.length) pt+1):=by
 have e1:=rst_pre hp
 generalize hn:com (rst c pre.length) pt=n at *
 have hn':comL (byt (rst c pre.length)) (byt pt)=n:=hn
 rw[byt_ext]
 rw[<- z1b] at hlt
 generalize byt (rst c pre.length)=r at *
 generalize byt pt=r' at *
 have l1:=comL_le1 r r'
 have lt1:n<r.length:=by
  rcases Nat.lt_or_ge n r.length with h|h
  ·exact h
  ·exfalso
   obtain⟨z,hz⟩:=hq
   have h1:r <+: r':=comL_full1 (by omega)
   have h2:byt c <+: byt e:=by
    rw[e1]
    exact ((List.prefix_append_right_inj pre).2 h1).trans ((List.prefix_append _ _).trans hz)
   have h3:=hz.length_le
   rw[<- hc.prefix he h2,e1] at h3
   have h4:=h1.length_le
   simp at h3
   omega
 have g1:r[n]?=some r[n]:=List.getElem?_eq_getElem lt1
 have g2:r'[n]?=some r'[n]:=List.getElem?_eq_getElem hlt
 refine⟨r[n],r'[n],g1,g2,comL_end r r' _ _ (by rw[hn'];exact g1) (by rw[hn'];exact g2),?_,?_⟩
 ·rw[e1,List.append_assoc]
  exact (List.prefix_append_right_inj pre).2 (take_one g1)
 ·have e2:=comL_take r r'
  rw[hn'] at e2
  rw[e2,List.append_assoc,List.singleton_append,<- List.drop_eq_getElem_cons hlt,List.take_append_drop]
end
theorem kind_le (h:n+1<=256):kindOf n<=kindOf (n+1)/\kindOf (n+1)<=5/\n+1<=z0v (kindOf (n+1)):=by
 unfold kindOf
 repeat' split
 all_goals first|omega|(simp[z0v];omega)
open Go.Proofs.YtgdmfledhhoedaaGreatDoor.T (z1p)
def Alive (P:List (Cel PNd)) (x:Nat):Prop:=∃ g q,z0l P x g x q
def GenOk (P:List (Cel PNd)):Prop:=∀ p∈P,0<=p.gen/\p.gen<=4294967295
def PutE (E E':Ents) (c v:ByteArray):Prop:=E'.Perm ((c,v) :: E.filter fun e=>decide (e.1≠c))
structure Chg (P P':List (Cel PNd)) (n:Nat):Prop where
 len:P'.length=P.length
 gen:GenOk P->GenOk P'
 room:z1j P<=z1j P'+n
structure PutR (P P':List (Cel PNd)) (i:Nat) (g:Int) (S S':Nat->Prop) (E E':Ents) (c v:ByteArray):Prop where
 sub:Sub P' i g true [] S' E'
 ent:PutE E E' c v
 keep:∀ x,¬ S x->Alive P x->P'[x]?=P[x]?
 fr:∀ x,S' x->S x\/¬ Alive P x
theorem Chg.refl (P:List (Cel PNd)):Chg P P 0:=⟨rfl,id,Nat.le_refl _⟩
theorem Chg.trans {A B C:List (Cel PNd)} {m n k:Nat} (h:Chg A B m) (h':Chg B C n) (e:k=m+n):Chg A C k:=⟨h'.len.trans h.len,fun x=>h'.gen (h.gen x),by have:=h.room;have:=h'.room;omega⟩
theorem GenOk.at (h:GenOk P) {j:Nat} {p:Cel PNd} (hj:P[j]?=some p):0<=p.gen:=(h p (List.mem_of_getElem? hj)).1
theorem GenOk.le (h:GenOk P) {j:Nat} {p:Cel PNd} (hj:P[j]?=some p):p.gen<=4294967295:=(h p (List.mem_of_getElem? hj)).2
variable {p:Cel PNd}
theorem Chg.take (hj:P[j]?=some p) (hr:p.room=true) (q:PNd):Chg P (P.set j ⟨true,q,p.gen+1⟩) 1:=by
 refine⟨by simp,fun h x hx=>?_,?_⟩
 ·rcases List.mem_or_eq_of_mem_set hx with hx|rfl
  ·exact h x hx
  ·have h1:=h.at hj;have h2:p.gen<4294967295:=by unfold Cel.room at hr;simp at hr;exact hr.2
   exact⟨show 0<=p.gen+1 by omega,show p.gen+1<=4294967295 by omega⟩
 ·have:=roomN_set (c:=(⟨true,q,p.gen+1⟩:Cel PNd)) hj hr rfl
  omega
theorem Chg.turn {q0:PNd} (h:z0l P s g i q0) (q:PNd):Chg P (P.set i ⟨true,q,g⟩) 0:=by
 obtain⟨_,p,h1,h2,h3,_⟩:=h
 refine⟨by simp,fun h x hx=>?_,?_⟩
 ·rcases List.mem_or_eq_of_mem_set hx with hx|rfl
  ·exact h x hx
  ·have h4:=h.at h1;have h5:=h.le h1
   exact⟨show 0<=g by omega,show g<=4294967295 by omega⟩
 ·have hr:p.room=false:=by unfold Cel.room;rw[h2];rfl
  rw[roomN_same (c:=(⟨true,q,g⟩:Cel PNd)) h1 hr rfl]
  omega
theorem alive_not (hj:P[j]?=some p) (hr:p.room=true):¬ Alive P j:=by
 rintro ⟨g,q,h⟩
 obtain⟨p',h1,h2⟩:=h.noroom
 rw[hj] at h1
 cases h1
 rw[hr] at h2
 cases h2
theorem z0l.put (h:i<P.length) (g:Int) (q:PNd):z0l (P.set i ⟨true,q,g⟩) i g i q:=⟨rfl,_,List.getElem?_set_self h,rfl,rfl,rfl⟩
theorem z0l.lt {q:PNd} (h:z0l P s g i q):i<P.length:=by
 obtain⟨_,p,h1,_⟩:=h
 exact (List.getElem?_eq_some_iff.1 h1).1
theorem Up.codes (h:Up E):(E.map fun e=>byt e.1).Nodup:=by
 unfold Up at h
 rw[List.Nodup,List.pairwise_map]
 exact h.imp fun hab e=>by rw[e] at hab;exact hab.irrefl
theorem PutE.new {E':Ents} (h:Up E') (hp:E'.Perm ((c,v) :: E)):PutE E E' c v:=by
 have h1:=((hp.map fun e=>byt e.1).nodup_iff).1 h.codes
 rw[List.map_cons,List.nodup_cons] at h1
 have h2:(E.filter fun e=>decide (e.1≠c))=E:=List.filter_eq_self.2 fun e he=>by
  simp only[ne_eq,decide_eq_true_eq]
  intro hc
  exact h1.1 (List.mem_map.2 ⟨e,he,by rw[hc]⟩)
 unfold PutE
 rw[h2]
 exact hp
theorem PutE.one {Eu':Ents} (h:Up (E1++(Eu'++E2))) (hp:Eu'.Perm ((c,v) :: Eu)) (hE:E=E1++(Eu++E2)):PutE E (E1++(Eu'++E2)) c v:=by
 refine PutE.new h ?_
 rw[hE]
 exact ((hp.append_right E2).append_left E1).trans (List.perm_middle (l₁:=E1) (l₂:=Eu++E2))
theorem next_pre {x:UInt8} (hp:pre <+: byt c) (hcom:com (rst c pre.length) pt=pt.size) (hx:(byt (rst c pre.length))[pt.size]?=some x):pre++byt pt++[x] <+: byt c:=by
 have e1:=rst_pre hp
 have h1:byt pt <+: byt (rst c pre.length):=comL_full (by rw[z1b];exact hcom)
 have h2:byt pt=(byt (rst c pre.length)).take pt.size:=by
  have:=List.prefix_iff_eq_take.1 h1
  rw[z1b] at this
  exact this
 rw[e1,List.append_assoc]
 refine (List.prefix_append_right_inj pre).2 ?_
 rw[h2]
 exact take_one hx
variable {plp:Bool}
section
variable {P P':List (Cel PNd)} {i u:Nat} {g gu:Int} {plu:Bool} {preu:List UInt8} {S Su:Nat->Prop} {E Eu E1 E2:Ents} {c v:ByteArray}
theorem put_here {v0:ByteArray} (hs:Sub P i g true [] S E) (hSu:Sub P u gu plu preu Su Eu) (hl:z0l P u gu u ⟨.leaf c v0,false,false⟩) (hE:E=E1++(Eu++E2)) (hin:∀ x,Su x->S x) (hLS:LiftS P i g true [] S u gu plu preu Su E1 E2) (hpre:preu <+: byt c) (hc:z2l c) :
 ∃ S' E',PutR P (P.set u ⟨true,⟨.leaf c v,false,false⟩,gu⟩) i g S S' E E' c v:=by
 cases hSu with
 | node hl2=>have:=(hl.uniq hl2).2;cases this
 | leaf hl2 hp2 hc2 =>
  have:=(hl.uniq hl2).2
  cases this
  obtain⟨S',h1,h2⟩:=hLS _ _ _ (Sub.leaf (P:=P.set u ⟨true,⟨.leaf c v,false,false⟩,gu⟩) (v:=v) (.put hl.lt _ _) hpre hc) (fun x hx hn=>List.getElem?_set_ne (fun e=>hn e.symm)) (fun x hx=>.inl hx)
  refine⟨S',_,h1,?_,fun x hx _=>List.getElem?_set_ne (fun e=>hx (hin x e.symm)),fun x hx=>?_⟩
  ·have hne:=Up.ne (hE ▸ hs.up)
   have hf:(E.filter fun e=>decide (e.1≠c))=E1++E2:=by
    rw[hE]
    simp only[List.filter_append,List.filter_cons,List.filter_nil]
    have a1:(E1.filter fun e=>decide (e.1≠c))=E1:=List.filter_eq_self.2 fun e he=>by simpa using hne e (List.mem_append_left _ he)
    have a2:(E2.filter fun e=>decide (e.1≠c))=E2:=List.filter_eq_self.2 fun e he=>by simpa using hne e (List.mem_append_right _ he)
    rw[a1,a2]
    simp
   unfold PutE
   rw[hf]
   exact List.perm_middle
  ·rcases h2 x hx with h|h
   ·exact .inl h.1
   ·exact .inl (hin x h)
theorem put_bare {x:UInt8} (hs:Sub P i g true [] S E) (hSu:Sub P u gu plu preu Su Eu) (hl:z0l P u gu u ⟨.z0k k pt L,plu,false⟩) (hE:E=E1++(Eu++E2)) (hin:∀ x,Su x->S x) (hLS:LiftS P i g true [] S u gu plu preu Su E1 E2) (hpre:preu <+: byt c) (hc:z2l c)
 (hcom:com (rst c preu.length) pt=pt.size) (hx:(byt (rst c preu.length))[pt.size]?=some x) (hf:z0p L (x.toNat:Int)=none) (hj:¬ Alive P j) (hok:(⟨x.toNat,j,gj⟩:Kd).ok) {k':Nat} (hk':plu=false->k'=kindOf (L.length+1)) (hk5:plu=true->k'=5)
 (hu':z0l P' u gu u ⟨.z0k k' pt (insK L ⟨x.toNat,j,gj⟩),plu,false⟩) (hj':z0l P' j gj j ⟨.leaf c v,false,false⟩) (hfr:∀ z,z≠j->z≠u->P'[z]?=P[z]?) :
 ∃ S' E',PutR P P' i g S S' E E' c v:=by
 have hS:∀ {z},S z->Alive P z:=fun hz=>hs.live hz
 have huj:u≠j:=fun e=>hj (e ▸ ⟨_,_,hl⟩)
 have hw:=hSu
 cases hSu with
 | leaf hl2=>have:=(hl.uniq hl2).2;cases this
 | @node _ _ k2 pt2 L2 _ _ ki Ss Es hl2 hk hsub d1 d2 hr hok2 hL hn ha =>
  have e:=(hl.uniq hl2).2
  injection e with e1 _ _
  injection e1 with e2 e3 e4
  subst e2 e3 e4
  have hb:(⟨(x.toNat:Int),(j:Int),gj⟩:Kd).byte=x:=kd_byte rfl
  have hrise:Rise (insK L ⟨x.toNat,j,gj⟩):=insK_rise hr (k:=⟨x.toNat,j,gj⟩) hf
  have hlen:L.length+1<=256:=by
   have:=rise_room hrise (Go.Proofs.YtgdmfledhhoedaaGreatDoor.O.insK_ok hok2 hok)
   rwa [z2y] at this
  have hne:∀ m y,m<L.length->Ss m y->y≠j:=fun m y hm hy e=>hj (e ▸ hS (hin y (.inr ⟨m,hm,hy⟩)))
  obtain⟨Su',Eu',m1,m2,m3⟩:=Sub.more (P:=P) (P':=P') (k':=k') (pl:=plu) (pre:=preu) (Ss:=Ss) (Es:=Es) hk hsub d2 hr hok2 (Sn:=(·=j)) (En:=[(c,v)]) (by rw[hb];exact .leaf hj' (next_pre hpre hcom hx) hc) hu' hf (fun m y hm hy=>hfr y (hne m y hm hy) (d1 m y hm hy)) d1 (fun y hy=>⟨by rw[hy];exact huj.symm,fun m hm h=>hne m y hm h hy⟩) hok hlen (fun e=>⟨by have:=(hn e).1;omega,hk' e,(hn e).2.2⟩) (fun e=>⟨hk5 e,(ha e).2⟩)
  obtain⟨S',h1,h2⟩:=hLS P' Su' Eu' m1 (fun z hz hn=>hfr z (fun e=>hj (e ▸ hS hz)) (fun e=>hn (.inl e))) (fun z hz=>by
   rcases m3 z hz with h|h|h
   ·exact .inl (.inl h)
   ·exact .inr fun h'=>hj (h ▸ hS h')
   ·exact .inl (.inr h))
  refine⟨S',_,h1,PutE.one h1.up m2 hE,fun z hz ha=>hfr z (fun e=>hj (e ▸ ha)) (fun e=>hz (e ▸ hin u (.inl rfl))),fun z hz=>?_⟩
  rcases h2 z hz with h|h
  ·exact .inl h.1
  ·rcases m3 z h with h|h|h
   ·exact .inl (hin z (.inl h))
   ·exact .inr (h ▸ hj)
   ·exact .inl (hin z (.inr h))
theorem put_grow {p:Nat} {kk:Kd} {x:UInt8} (hs:Sub P i g true [] S E) (hSu:Sub P u gu false preu Su Eu) (hl:z0l P u gu u ⟨.z0k k pt L,false,false⟩) (hE:E=E1++(Eu++E2)) (hin:∀ x,Su x->S x) (hLT:LiftT P i g true [] S p gp kp ptp Lp plp kk preu Su E1 E2) (hSp:S p) (hnp:¬ Su p) (hpre:preu <+: byt c) (hc:z2l c)
 (hcom:com (rst c preu.length) pt=pt.size) (hx:(byt (rst c preu.length))[pt.size]?=some x) (hf:z0p L (x.toNat:Int)=none) (hj:¬ Alive P j) (hm:¬ Alive P m) (hjm:j≠m) (hok:(⟨x.toNat,j,gj⟩:Kd).ok) (hokm:(⟨kk.b,m,gm⟩:Kd).ok)
 (hm':z0l P' m gm m ⟨.z0k (kindOf (L.length+1)) pt (insK L ⟨x.toNat,j,gj⟩),false,false⟩) (hj':z0l P' j gj j ⟨.leaf c v,false,false⟩) (hp':z0l P' p gp p ⟨.z0k kp ptp (z1t Lp kk.b m gm),plp,false⟩) (hfr:∀ z,z≠j->z≠m->z≠p->z≠u->P'[z]?=P[z]?) :
 ∃ S' E',PutR P P' i g S S' E E' c v:=by
 have hS:∀ {z},S z->Alive P z:=fun hz=>hs.live hz
 cases hSu with
 | leaf hl2=>have:=(hl.uniq hl2).2;cases this
 | @node _ _ k2 pt2 L2 _ _ ki Ss Es hl2 hk hsub d1 d2 hr hok2 hL hn ha =>
  have e:=(hl.uniq hl2).2
  injection e with e1 _ _
  injection e1 with e2 e3 e4
  subst e2 e3 e4
  have hb:(⟨(x.toNat:Int),(j:Int),gj⟩:Kd).byte=x:=kd_byte rfl
  have hrise:Rise (insK L ⟨x.toNat,j,gj⟩):=insK_rise hr (k:=⟨x.toNat,j,gj⟩) hf
  have hlen:L.length+1<=256:=by
   have:=rise_room hrise (Go.Proofs.YtgdmfledhhoedaaGreatDoor.O.insK_ok hok2 hok)
   rwa [z2y] at this
  have inS:∀ n y,n<L.length->Ss n y->S y:=fun n y hn hy=>hin y (.inr ⟨n,hn,hy⟩)
  obtain⟨Su',Eu',m1,m2,m3⟩:=Sub.more (P:=P) (P':=P') (u:=m) (gu:=gm) (k':=kindOf (L.length+1)) (pl:=false) (pre:=preu) (Ss:=Ss) (Es:=Es) hk hsub d2 hr hok2 (Sn:=(·=j)) (En:=[(c,v)]) (by rw[hb];exact .leaf hj' (next_pre hpre hcom hx) hc) hm' hf
   (fun n y hn hy=>hfr y (fun e=>hj (e ▸ hS (inS n y hn hy))) (fun e=>hm (e ▸ hS (inS n y hn hy))) (fun e=>hnp (e ▸ .inr ⟨n,hn,hy⟩)) (d1 n y hn hy)) (fun n y hn hy e=>hm (e ▸ hS (inS n y hn hy))) (fun y hy=>⟨by rw[hy];exact hjm,fun n hn h=>hj (hy ▸ hS (inS n y hn h))⟩) hok hlen (fun e=>⟨by have:=(hn e).1;omega,rfl,(hn e).2.2⟩) (fun e=>by cases e)
  obtain⟨S',h1,h2⟩:=hLT P' m gm Su' Eu' m1 hp' (fun z hz hn hp=>hfr z (fun e=>hj (e ▸ hS hz)) (fun e=>hm (e ▸ hS hz)) hp (fun e=>hn (.inl e))) (fun z hz=>by
   rcases m3 z hz with h|h|h
   ·exact .inr fun h'=>hm (h ▸ hS h')
   ·exact .inr fun h'=>hj (h ▸ hS h')
   ·exact .inl (.inr h)) hokm
  refine⟨S',_,h1,PutE.one h1.up m2 hE,fun z hz ha=>hfr z (fun e=>hj (e ▸ ha)) (fun e=>hm (e ▸ ha)) (fun e=>hz (e ▸ hSp)) (fun e=>hz (e ▸ hin u (.inl rfl))),fun z hz=>?_⟩
  rcases h2 z hz with h|h
  ·exact .inl h.1
  ·rcases m3 z h with h|h|h
   ·exact .inr (h ▸ hm)
   ·exact .inr (h ▸ hj)
   ·exact .inl (hin z (.inr h))
theorem put_fork {p:Nat} {pt0:ByteArray} {kk:Kd} {x y:UInt8} (hs:Sub P i g true [] S E) (hE:E=E1++(Eu++E2)) (hin:∀ x,Su x->S x) (hLT:LiftT P i g true [] S p gp kp ptp Lp plp kk preu Su E1 E2) (hSp:S p) (hSu:Su u) (hc:z2l c)
 (hu':Sub P' u gu false (preu++byt pt0++[y]) Su Eu) (hpx:preu++byt pt0++[x] <+: byt c) (hxy:x≠y) (hp0:pt0.size<=34) (hj:¬ Alive P j) (hm:¬ Alive P m) (hjm:j≠m) (hoku:(⟨y.toNat,u,gu⟩:Kd).ok) (hok:(⟨x.toNat,j,gj⟩:Kd).ok) (hokm:(⟨kk.b,m,gm⟩:Kd).ok)
 (hm':z0l P' m gm m ⟨.z0k 2 pt0 (z1p ⟨y.toNat,u,gu⟩ ⟨x.toNat,j,gj⟩),false,false⟩) (hj':z0l P' j gj j ⟨.leaf c v,false,false⟩) (hp':z0l P' p gp p ⟨.z0k kp ptp (z1t Lp kk.b m gm),plp,false⟩) (hfr:∀ z,z≠j->z≠m->z≠p->z≠u->P'[z]?=P[z]?) :
 ∃ S' E',PutR P P' i g S S' E E' c v:=by
 have hS:∀ {z},S z->Alive P z:=fun hz=>hs.live hz
 obtain⟨Su',Eu',m1,m2,m3⟩:=Sub.fork hu' (Sub.leaf (v:=v) hj' hpx hc) hxy.symm hm' (fun z hz e=>hm (e ▸ hS (hin z hz))) (fun z hz=>⟨by rw[hz];exact hjm,fun h=>hj (hz ▸ hS (hin z h))⟩) hoku hok hp0
 obtain⟨S',h1,h2⟩:=hLT P' m gm Su' Eu' m1 hp' (fun z hz hn hp=>hfr z (fun e=>hj (e ▸ hS hz)) (fun e=>hm (e ▸ hS hz)) hp (fun e=>hn (e ▸ hSu))) (fun z hz=>by
  rcases m3 z hz with h|h|h
  ·exact .inr fun h'=>hm (h ▸ hS h')
  ·exact .inr fun h'=>hj (h ▸ hS h')
  ·exact .inl h) hokm
 refine⟨S',_,h1,PutE.one h1.up m2 hE,fun z hz ha=>hfr z (fun e=>hj (e ▸ ha)) (fun e=>hm (e ▸ ha)) (fun e=>hz (e ▸ hSp)) (fun e=>hz (e ▸ hin u hSu)),fun z hz=>?_⟩
 rcases h2 z hz with h|h
 ·exact .inl h.1
 ·rcases m3 z h with h|h|h
  ·exact .inr (h ▸ hm)
  ·exact .inr (h ▸ hj)
  ·exact .inl (hin z h)
end
end Go.Burg
