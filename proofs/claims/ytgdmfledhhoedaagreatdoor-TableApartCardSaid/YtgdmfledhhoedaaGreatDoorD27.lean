/- TableApart. -/
import Derived.Test.YtgdmfledhhoedaaGreatDoorD24
import Derived.Test.YtgdmfledhhoedaaGreatDoorD26
import Derived.Deep.LoopGhost
import Derived.Deep.CutBlock
import Derived.Deep.CutRange
import Derived.Test.YtgdmfledhhoedaaGreatDoorD02
import Derived.Deep.Slices
import Derived.Lib.SmallJoins
import Derived.Test.YtgdmfledhhoedaaGreatDoorD05
import Derived.Test.YtgdmfledhhoedaaGreatDoorTie
import Derived.Test.YtgdmfledhhoedaaGreatDoorCards
import Derived.ProofKit
import Derived.LaidMore
import Derived.OpenShut
import Derived.Stop.Joined
import Derived.SevenTiedAt
import Derived.ChangeSlices
namespace Go.Burg
open Go Go.RowKit
structure SV where
 what:Int
 tn:Int
 n:Int
 m:Int
 gen:Int
 rt:Int
 dd:Int
 key:ByteArray
def SRow (v:SV):List Value:=[.int .i64 v.what,.int .i64 v.tn,.int .i64 v.n,.int .i64 v.m,.int .u32 v.gen,.int .u8 v.rt,.int .i64 v.dd,.string v.key]
def StepsAt (w:World) (a:Option Addr) (len:Nat) (ds:Nat->SV):Prop :=
 0<len->∃ bl off,a=some ⟨bl,off,none⟩/\bl<w.heap.size/\∀ i,i<len->(∀ j,j<8->w.cell? ⟨bl,off+i * 8+j,none⟩=(SRow (ds i))[j]?)/\(-9223372036854775808<=(ds i).n/\(ds i).n<=9223372036854775807)/\(-9223372036854775808<=(ds i).m/\(ds i).m<=9223372036854775807)
end Go.Burg
namespace Go.Proofs.YtgdmfledhhoedaaGreatDoor.T
set_option maxRecDepth 8000
open Go.ChangeShapes Go.WideShapes Go.ChangeAt Go.RowKit Go.Burg
open Go.Burg.Lk Go.Shelf
open Go.Burg.Purse (St Inv)
attribute [local go_sem] Oper.semAt_some
theorem u64_in (n:Int):0<=IntKind.u64.wrap n/\IntKind.u64.wrap n<=Purse.big:=by
 rw[IntKind.wrap_u64]
 unfold Purse.big
 omega
def SB:St:=⟨100,1000,0,0,3,9,1,[(1,3,9)]⟩
def SC:St:=⟨100,1000,3,9,0,0,1,[]⟩
theorem iA:Inv (St.new 100 1000):=Purse.Inv.new (by omega) (by unfold Purse.big;omega) (by omega) (by unfold Purse.big;omega)
theorem eA:(St.new 100 1000).res (max 3 0) (max 9 0)=(1,0,SB):=if_pos (show ((max 3 0:Int)<=100 - (0+0)/\(max 9 0:Int)<=1000 - (0+0)) by omega)
theorem iB:Inv SB:=by have:=iA.res (k:=max 3 0) (y:=max 9 0) (by omega) (by omega);rwa [eA] at this
theorem eB:comPay SB 1 0 0=SC:=by
 have h1:(SB.com 1).2=SC:=rfl
 unfold comPay
 rw[h1]
 exact congrArg Prod.snd (if_pos (show ((0:Int)<=3/\(0:Int)<=9) by omega))
set_option maxRecDepth 100000 in
set_option maxHeartbeats 8000000 in
theorem apart_any (a0 a1:Option Addr) (len0 cap0 len1 cap1:Nat) (ks:Nat->ByteArray) (ds:Nat->SV) (w:World) (hR:RoomsAt w) (h0:ElAt w a0 len0 (fun i=>.string (ks i))) (h1:StepsAt w a1 len1 ds) :
 Calls Tryz.prog 4 #[.slice a0 len0 cap0,.slice a1 len1 cap1] w fun e w'=>e=.returned (.bool true)/\Below w.heap.size w w':=by
 have hFR:=fresh_at 400 w (by omega) (by omega)
 have HFR:=hid hFR
 have HR:=hid hR
 have H0:=hid h0
 have H1:=hid h1
 clear hFR hR h0 h1
 go_enter Tryz.func4,Tryz.ntmps4
 go_wp2_with (go_at_call 5;refine HFR.out.mono ?_;rintro e w1 ⟨x,t,sb,sg,kb,km,rfl,hX,hT,hlo,hxx,hb1⟩;go_loud (have HX:=hid hX;have HT:=hid (show z0s w1 t sb sg kb km ASt.start.P [] 0 from ⟨_,hT,rel_zero 400⟩);have HLO:=hid hlo;have HXX:=hid hxx;have HB1:=hid hb1;clear hX hT hlo hxx hb1))
 obtain⟨j,pj,hF,hj,hjr,hj2,g0,g1⟩:=AI.start.first (by omega)
 have hwf:=rk_wf (j:=j) (g:=pj.gen+1) (by omega) (by omega) (by omega)
 refine (create_P (n:=5) (lt:=ASt.start.lt) 100 1000 w1 HX.out HT.out HXX.out (by omega) (by omega) rfl ⟨by simp[ASt.start,Ten.zero],by simp[ASt.start,Ten.zero]⟩ hF hj hjr ⟨((j:Int),pj.gen+1),hwf⟩ rfl rfl).mono ?_
 rintro e w2 ⟨rfl,p,m,hX0,hT0,hP,b1,b2,hM⟩
 have hAI:=AI.start.z1h (n:=5) (p:=p) (m:=m) rfl hj hjr (mk:=100) (mb:=1000) (Purse.Inv.new (by omega) (by unfold Purse.big;omega) (by omega) (by unfold Purse.big;omega))
 have h5:(ASt.start.z1h 5 j p m (pj.gen+1) 100 1000).lt 5=⟨1,(j:Int),pj.gen+1,some p⟩/\(ASt.start.z1h 5 j p m (pj.gen+1) 100 1000).an 5=j:=⟨rfl,rfl⟩
 have hno:∀ n q,n≠5->((ASt.start.z1h 5 j p m (pj.gen+1) 100 1000).lt n).purse≠some q:=fun n q hn e=>by
  simp only[ASt.z1h,upd,if_neg hn,ASt.start,Ten.zero] at e
  cases e
 have hX:TabAt 87 w2 x t (ASt.start.z1h 5 j p m (pj.gen+1) 100 1000).lt:=hX0
 obtain⟨L1,hT⟩:∃ L1,z0s w2 t sb sg kb km (ASt.start.z1h 5 j p m (pj.gen+1) 100 1000).P L1 0:=⟨_,hT0⟩
 have hlt:x<w2.heap.size/\t<w2.heap.size/\sb<w2.heap.size/\sg<w2.heap.size/\kb<w2.heap.size/\km<w2.heap.size:=by
  obtain⟨_,a,_⟩:=hT
  exact⟨hX.lt,lt_of_block a.ht,a.hs.blt,a.hs.glt,a.hk.lt.1,a.hk.lt.2⟩
 have hpm:(x<p/\t<p/\sb<p/\sg<p/\kb<p/\km<p)/\x<m/\t<m/\sb<m/\sg<m/\kb<m/\km<m:=by
  have h1:=HX.out.lt
  obtain⟨_,a,_⟩:=HT.out
  have h2:=lt_of_block a.ht
  have h3:=a.hs.blt
  have h4:=a.hs.glt
  have h5:=a.hk.lt
  omega
 generalize ASt.start.z1h 5 j p m (pj.gen+1) 100 1000=s1 at *
 have HB2:=hid (z2h HB1.out hM (fun k hk=>by have:=HLO.out;rcases hk with e|e|e<;>omega))
 have HX2:=hid hX
 have HT2:=hid hT
 have HP2:=hid hP
 have HAI:=hid hAI
 have H5:=hid h5
 have HNO:=hid hno
 have HLT2:=hid hlt
 have HPM:=hid hpm
 clear hT0 hX0 hF hj hjr hj2 hwf hX hT hP b1 b2 hM hAI h5 hno hlt hpm HX HT HB1 HFR
 go_wp2_with fail
 have hI:=Issue_at (n:=5) (p:=p) 7 w2 HX2.out (by omega) (by omega) (by rw[H5.out.1]) (by omega) (by omega)
 rw[H5.out.1] at hI
 refine hI.mono ?_
 rintro e w3 ⟨rfl,hb3⟩
 clear hI
 have HX3:=hid ((HX2.out.keep hb3).alloc (.cells #[.int .i64 5,.int .u32 1,.int .u8 7] 51 (0,0)))
 have HT3:=hid ((HT2.out.keep hb3).keep ((Below.refl _ w3).alloc (Nat.le_refl _) (.cells #[.int .i64 5,.int .u32 1,.int .u8 7] 51 (0,0))))
 have HP3:=hid ((HP2.out.keep hb3).alloc (.cells #[.int .i64 5,.int .u32 1,.int .u8 7] 51 (0,0)))
 have HH3:=hid (z0a w3 (.cells #[.int .i64 5,.int .u32 1,.int .u8 7] 51 (0,0)))
 have HB3:=hid ((HB2.out.trans (hb3.mono HB2.out.size)).alloc (by have:=HB2.out.size;have:=hb3.size;omega) (.cells #[.int .i64 5,.int .u32 1,.int .u8 7] 51 (0,0)))
 have HLT3:=hid (show x<w3.heap.size/\t<w3.heap.size/\sb<w3.heap.size/\sg<w3.heap.size/\kb<w3.heap.size/\km<w3.heap.size by have:=HLT2.out;have:=hb3.size;omega)
 clear hb3 HX2 HT2 HP2 HB2 HLT2
 go_wp2_with fail
 generalize w3.alloc (.cells #[.int .i64 5,.int .u32 1,.int .u8 7] 51 (0,0))=W3 at *
 generalize w3.heap.size=hb at *
 have hI:=Anchor_at (n:=5) (p:=p) W3 HX3.out (by omega) (by omega) (by rw[H5.out.1])
 rw[H5.out.1] at hI
 refine hI.mono ?_
 rintro e w4 ⟨rfl,hb4⟩
 clear hI
 have HX4:=hid ((HX3.out.keep hb4).alloc (.cells #[.int .i64 (j:Int),.int .u32 (pj.gen+1)] 36 (0,0)))
 have HT4:=hid ((HT3.out.keep hb4).keep ((Below.refl _ w4).alloc (Nat.le_refl _) (.cells #[.int .i64 (j:Int),.int .u32 (pj.gen+1)] 36 (0,0))))
 have HP4:=hid ((HP3.out.keep hb4).alloc (.cells #[.int .i64 (j:Int),.int .u32 (pj.gen+1)] 36 (0,0)))
 have HH4:=hid (z0c (o':=(.cells #[.int .i64 (j:Int),.int .u32 (pj.gen+1)] 36 (0,0))) (z0b HH3.out hb4 (lt_of_block HH3.out)))
 have HR4:=hid (z0a w4 (.cells #[.int .i64 (j:Int),.int .u32 (pj.gen+1)] 36 (0,0)))
 have HB4:=hid ((HB3.out.trans (hb4.mono HB3.out.size)).alloc (by have:=HB3.out.size;have:=hb4.size;omega) (.cells #[.int .i64 (j:Int),.int .u32 (pj.gen+1)] 36 (0,0)))
 have HHA:=hid (show hb<w4.heap.size by have:=lt_of_block HH3.out;have:=hb4.size;omega)
 clear hb4 HX3 HT3 HP3 HH3 HB3
 go_upto_block 0 with fail
 generalize w4.alloc (.cells #[.int .i64 (j:Int),.int .u32 (pj.gen+1)] 36 (0,0))=W4 at *
 generalize w4.heap.size=ab at *
 have hAD:AD w W4 x t sb sg kb km:=⟨HB4.out,⟨HLO.out.1,HLO.out.2.2.2.1,HLO.out.2.2.2.2.2⟩,by have:=HLT3.out;have:=lt_of_block HH4.out;omega,HXX.out,HR.out⟩
 have HAD:=hid hAD
 have HAW:=hid (show AW W4 x t sb sg kb km s1 L1 W4 from ⟨HX4.out,HT4.out,Mod.refl _ _,fun n q hn hq=>absurd hq (HNO.out n q hn),fun n m p q _ hn _ hp _=>absurd hp (HNO.out n p hn)⟩)
 clear hAD HX4 HT4 HB4
 have HAB:Hid (∀ s L w1,AW W4 x t sb sg kb km s L w1->w1.heap[ab]?=some (.cells #[.int .i64 (j:Int),.int .u32 (pj.gen+1)] 36 (0,0))/\w1.heap[hb]?=some (.cells #[.int .i64 5,.int .u32 1,.int .u8 7] 51 (0,0))):=hid fun s L w1 h=>by
  have no:∀ k,hb<=k->¬ COwn x sg km k:=fun k hk e=>by have:=HLT3.out;rcases e with e|e|e<;>omega
  exact⟨(h.md.block ab (lt_of_block HR4.out) (no _ (by have:=HHA.out;omega))).trans HR4.out,(h.md.block hb (lt_of_block HH4.out) (no _ (Nat.le_refl _))).trans HH4.out⟩
 go_cut [11] from 48 to 65 (fun v11 wx=>∃ (i:Nat) (s:ASt) (L:List (RefK × Wd)),v11=.int .i64 i/\AI s 61/\AW W4 x t sb sg kb km s L wx/\s.lt=s1.lt)
 case first =>
  go_wp2_with fail
  go_loopg [11] 30 (fun g iv wr=>∃ (i:Nat) (s:ASt) (L:List (RefK × Wd)),g=30 - i/\i<=30/\i<=len0/\iv=.int .i64 i/\AI s (1+2 * i)/\AW W4 x t sb sg kb km s L wr/\s.lt=s1.lt)
  case atStart=>exact⟨0,s1,L1,rfl,by omega,by omega,rfl,HAI.out,HAW.out,rfl⟩
  case round =>
   clear HAI HAW
   obtain⟨i,s,L,rfl,hi30,hi0,rfl,hI,hW,hl⟩:=hrel
   by_cases hc:i<30/\i<len0
   ·obtain⟨hc1,hc2⟩:=hc
    have d1:decide ((i:Int)<len0)=true:=by simp;omega
    have d2:decide ((i:Int)<30)=true:=by simp;omega
    obtain⟨bl,off,rfl,q0⟩:=H0.out.get (HAD.out.bel hW.md) hc2
    have h5:=H5.out.1
    rw[<- hl] at h5
    have hco:=codeB_coded (R.keyOf_size (ks i))
    have HLC:=hid (fun w1=>R.lcode_at (c:=ks i) w1)
    generalize codeB (R.keyOf (ks i))=c at *
    have hp:(s.lt 5).purse=some p:=by rw[h5]
    have han:=(hI.tens.ten 5 p hp).1
    obtain⟨s',L',hI',hl',_,hput⟩:=a_put (v:=vB) HAD.out hI (by omega) hp hco (by decide) L
    rw[<- han,h5] at hput
    have HG0:Hid (∀ s L w1,AW W4 x t sb sg kb km s L w1->w1.cell? ⟨bl,off+i,none⟩=some (.string (ks i))):=hid fun s L w1 h=>by
     obtain⟨_,_,e0,g0⟩:=H0.out.get (HAD.out.bel h.md) hc2
     cases e0
     exact g0
    have HW:=hid hW
    have HPUT:=hid hput
    have HI':=hid hI'
    have HL':=hid (hl'.trans hl)
    have HC:=hid (And.intro hc1 hc2)
    have HMB:Hid (∀ D' xs' w1,VT [0,1,2,3,4,5,6] (fun j'=>([.pointer (some ⟨t,0,none⟩),.agg #[.int .i64 (j:Int),.int .u32 (pj.gen+1)],.slice (some ⟨bl,off,none⟩) len0 cap0,.int .i64 i,.pointer (some ⟨bl,off+i,none⟩),.string (ks i),.string c]:List Value)[j']?.getD undef) (fun _ _=>True) 7 (fun w1=>Below wr.heap.size wr w1) (fun w1=>AW W4 x t sb sg kb km s' L' w1) D' xs' w1->∃ s L,AW W4 x t sb sg kb km s L w1):=hid fun D' xs' w1 hJ=>by
     have:=hJ.p
     cases hd:D' 7<;>rw[hd] at this
     ·exact⟨_,_,HW.out.keep this⟩
     ·exact⟨_,_,this⟩
    clear hI hW hl h5 hco hp han hI' hl' hput q0
    go_wp2_with fail
    refine z2i 8 (VT [0,1,2,3,4,5,6] (fun j'=>([.pointer (some ⟨t,0,none⟩),.agg #[.int .i64 (j:Int),.int .u32 (pj.gen+1)],.slice (some ⟨bl,off,none⟩) len0 cap0,.int .i64 i,.pointer (some ⟨bl,off+i,none⟩),.string (ks i),.string c]:List Value)[j']?.getD undef) (fun _ _=>True) 7 (fun w1=>Below wr.heap.size wr w1) (fun w1=>AW W4 x t sb sg kb km s' L' w1)) (by kernel_rfl) (by kernel_rfl) (by kernel_rfl) (VT.start ((Below.refl _ _).drew)) ?_ ?_
    ·dsimp only[List.take,z1c,dsts,fill]
     refine⟨?_,?_,?_,?_,?_,?_,?_,?_⟩
     ·intro D xs w1 hDk hwt hJ
      have HJ:=hid hJ
      have HD:=hid hDk
      clear hDk hwt hJ
      go_wp2_with (fail)
      refine⟨.pointer (some ⟨t,0,none⟩),by kernel_rfl,?_⟩
      try (intro q h;obtain rfl:=h rfl)
      exact VT.calm HJ.out HD.out (by decide) (fun _=>rfl) (trivial) id id
     ·intro D xs w1 hDk hwt hJ
      obtain⟨s2,L2,h2⟩:=HMB.out _ _ _ hJ
      have hk4:=(HAB.out _ _ _ h2).1
      have k0:=cell_of hk4 0
      have k1:=cell_of hk4 1
      clear hk4 h2
      have HJ:=hid hJ
      have HD:=hid hDk
      clear hDk hwt hJ
      go_wp2_with (fail)
      refine⟨.agg #[.int .i64 (j:Int),.int .u32 (pj.gen+1)],by kernel_rfl,?_⟩
      try (intro q h;obtain rfl:=h rfl)
      exact VT.calm HJ.out HD.out (by decide) (fun _=>rfl) (trivial) id id
     ·intro D xs w1 hDk hwt hJ
      have HJ:=hid hJ
      have HD:=hid hDk
      clear hDk hwt hJ
      go_wp2_with (fail)
      refine⟨.slice (some ⟨bl,off,none⟩) len0 cap0,by kernel_rfl,?_⟩
      try (intro q h;obtain rfl:=h rfl)
      exact VT.calm HJ.out HD.out (by decide) (fun _=>rfl) (trivial) id id
     ·intro D xs w1 hDk hwt hJ
      have HJ:=hid hJ
      have HD:=hid hDk
      clear hDk hwt hJ
      go_wp2_with (fail)
      refine⟨.int .i64 i,by kernel_rfl,?_⟩
      try (intro q h;obtain rfl:=h rfl)
      exact VT.calm HJ.out HD.out (by decide) (fun _=>rfl) (trivial) id id
     ·intro D xs w1 hDk hwt hJ
      rw[show xs 2=.slice (some ⟨bl,off,none⟩) len0 cap0 from hJ.v 2 (hwt 2 (eM (by kernel_rfl))) (by decide)]
      rw[show xs 3=.int .i64 i from hJ.v 3 (hwt 3 (eM (by kernel_rfl))) (by decide)]
      have hil:=HC.out.2
      have HJ:=hid hJ
      have HD:=hid hDk
      clear hDk hwt hJ
      go_wp2_with (fail)
      refine⟨.pointer (some ⟨bl,off+i,none⟩),by kernel_rfl,?_⟩
      try (intro q h;obtain rfl:=h rfl)
      exact VT.calm HJ.out HD.out (by decide) (fun _=>rfl) (trivial) id id
     ·intro D xs w1 hDk hwt hJ
      rw[show xs 4=.pointer (some ⟨bl,off+i,none⟩) from hJ.v 4 (hwt 4 (eM (by kernel_rfl))) (by decide)]
      obtain⟨s2,L2,h2⟩:=HMB.out _ _ _ hJ
      have g0:=HG0.out _ _ _ h2
      clear h2
      have HJ:=hid hJ
      have HD:=hid hDk
      clear hDk hwt hJ
      go_wp2_with (fail)
      refine⟨.string (ks i),by kernel_rfl,?_⟩
      try (intro q h;obtain rfl:=h rfl)
      exact VT.calm HJ.out HD.out (by decide) (fun _=>rfl) (trivial) id id
     ·intro D xs w1 hDk hwt hJ
      rw[show xs 5=.string (ks i) from hJ.v 5 (hwt 5 (eM (by kernel_rfl))) (by decide)]
      have HJ:=hid hJ
      have HD:=hid hDk
      clear hDk hwt hJ
      go_wp2_with (go_at_call 9;refine (HLC.out _).mono ?_;rintro e w' ⟨rfl,rfl⟩)
      refine⟨.string c,by kernel_rfl,?_⟩
      try (intro q h;obtain rfl:=h rfl)
      exact VT.calm HJ.out HD.out (by decide) (fun _=>rfl) (trivial) id id
     ·intro D xs w1 hDk hwt hJ
      rw[show xs 0=.pointer (some ⟨t,0,none⟩) from hJ.v 0 (hwt 0 (eM (by kernel_rfl))) (by decide)]
      rw[show xs 1=.agg #[.int .i64 (j:Int),.int .u32 (pj.gen+1)] from hJ.v 1 (hwt 1 (eM (by kernel_rfl))) (by decide)]
      rw[show xs 6=.string c from hJ.v 6 (hwt 6 (eM (by kernel_rfl))) (by decide)]
      have HB0:=hid (HW.out.keep (hJ.p0 hDk))
      have HJ:=hid hJ
      have HD:=hid hDk
      clear hDk hwt hJ
      go_wp2_with (go_at_call 8;refine (HPUT.out w1 HB0.out).mono ?_;rintro e w5 ⟨⟨d,rfl⟩,hW5,hM5⟩;go_loud (have H5:=hid hW5;clear hW5 hM5))
      refine⟨.tuple #[d,.int .i64 0],by kernel_rfl,?_⟩
      try (intro q h;obtain rfl:=h rfl)
      exact VT.turn HJ.out HD.out (fun h=>absurd h (by decide)) (trivial) (H5.out)
    intro D xs w5 hD hJ
    have HW5:=hid (hJ.p1 (hD 7 (by omega)))
    clear hD hJ HPUT HW HMB HG0
    dsimp only[List.take,dsts,fill,List.drop]
    go_wp2_with fail
    go_roundg (30 - (i+1))
    case rel=>exact⟨i+1,s',L',rfl,by have:=HC.out;omega,by have:=HC.out;omega,by go_num,by have:=HI'.out;rwa [show 1+2 * i+2=1+2 * (i+1) by omega] at this,HW5.out,HL'.out⟩
    case measure=>have:=HC.out;omega
   ·have HI:=hid (hI.more (show 1+2 * i<=61 by omega))
    have HW:=hid hW
    have HL:=hid hl
    clear hI hW hl
    rcases (by omega:i=len0\/(i<len0/\i=30)) with rfl|⟨h1,rfl⟩
    ·go_wp2_with fail
     go_meet
     case rel=>exact⟨_,s,L,rfl,HI.out,HW.out,HL.out⟩
    ·have d1:decide (((30:Nat):Int)<len0)=true:=by simp;omega
     go_wp2_with fail
     go_meet
     case rel=>exact⟨_,s,L,rfl,HI.out,HW.out,HL.out⟩
 case rest =>
  obtain⟨i,s,L,rfl,hI,hW,hl⟩:=hcut
  have hlt5:s.lt 5=⟨1,(j:Int),pj.gen+1,some p⟩:=by rw[hl];exact H5.out.1
  have hnop:¬ COwn x sg km p/\¬ COwn x sg km m:=by have:=HPM.out;exact⟨fun e=>by rcases e with e|e|e<;>omega,fun e=>by rcases e with e|e|e<;>omega⟩
  have hP:=HP4.out.mod hW.md hnop.1 hnop.2
  obtain⟨hka,hkh⟩:=HAB.out s L wc hW
  have n0:=cell_of hkh 0
  have n1:=cell_of hkh 1
  have n2:=cell_of hkh 2
  have HNO':=hid (fun n q hn=>by have:=HNO.out n q hn;rwa [<- hl] at this)
  have HI:=hid hI
  have HW:=hid hW
  have HL5:=hid hlt5
  have HP:=hid hP
  have HDIS:Hid ((ab≠p/\hb≠p)/\(ab≠m/\hb≠m)):=hid (by
   have h1:=cell_of hka 0
   have h2:=cell_of hkh 0
   obtain⟨k1,es,c,k2,_⟩:=hP
   refine⟨⟨fun e=>?_,fun e=>?_⟩,⟨fun e=>?_,fun e=>?_⟩⟩
   ·rw[e,k1] at hka;cases hka
   ·rw[e,k1] at hkh;cases hkh
   ·rw[e,k2] at hka;cases hka
   ·rw[e,k2] at hkh;cases hkh)
  have HKA:=hid hka
  have HKH:=hid hkh
  have HB4:=hid (HAD.out.bel hW.md)
  have hmReserve:∀ (w:World) (b:Nat),(method 410 127 (.pointer (some ⟨b,0,none⟩)) "Reserve").run Tryz.prog w=.ok (171,.pointer (some ⟨b,0,none⟩)) w:=fun w b=>by kernel_rfl
  have hnReserve:∀ (w:World) (b:Nat),(nilAhead 410 127 (.pointer (some ⟨b,0,none⟩)) "Reserve").run Tryz.prog w=.ok (some false) w:=fun w b=>by kernel_rfl
  have hmCommit:∀ (w:World) (b:Nat),(method 410 127 (.pointer (some ⟨b,0,none⟩)) "Commit").run Tryz.prog w=.ok (169,.pointer (some ⟨b,0,none⟩)) w:=fun w b=>by kernel_rfl
  have hnCommit:∀ (w:World) (b:Nat),(nilAhead 410 127 (.pointer (some ⟨b,0,none⟩)) "Commit").run Tryz.prog w=.ok (some false) w:=fun w b=>by kernel_rfl
  clear hI hW hl hlt5 hnop hP hka hkh HP4 HH4 HR4 HNO HAB H0 HAI HAW
  go_wp2_with fail
  refine (Gate_at x 5 1 7 2 wc).mono ?_
  rintro e w5 ⟨gb,rfl,hG,hgb,hb5⟩
  have HW5:=hid (HW.out.keep hb5)
  have HP5:=hid (HP.out.keep hb5)
  have HKA5:=hid (z0b HKA.out hb5 (lt_of_block HKA.out))
  have HKH5:=hid (z0b HKH.out hb5 (lt_of_block HKH.out))
  have HB5:=hid (HB4.out.trans (hb5.mono HB4.out.size))
  have HG5:=hid hG
  have HGN:Hid (gb≠p/\gb≠m/\¬ GOwn gb p m x/\¬ GOwn gb p m ab/\¬ GOwn gb p m hb/\(¬ GOwn gb p m t/\¬ GOwn gb p m sb/\¬ GOwn gb p m sg/\¬ GOwn gb p m kb/\¬ GOwn gb p m km)):=hid (by
   have h1:=HP.out.lt
   have h2:=HW.out.tb.lt
   have h3:=lt_of_block HKA.out
   have h4:=lt_of_block HKH.out
   have h5:=HPM.out
   have h6:=HHA.out
   have h7:=HLT3.out
   have h8:=HDIS.out
   refine⟨by omega,by omega,fun e=>?_,fun e=>?_,fun e=>?_,fun e=>?_,fun e=>?_,fun e=>?_,fun e=>?_,fun e=>?_⟩<;>(rcases e with e|e|e<;>omega))
  have HGE:Hid (w.heap.size<=gb/\w.heap.size<=p/\w.heap.size<=m):=hid (by have:=HB4.out.size;have:=HPM.out;have:=HLO.out;omega)
  clear hG hgb hb5 n0 n1 n2 HW HP HKA HKH HB4
  go_wp2_with fail
  have hI:=gReserve_ok (n:=5) (g:=⟨x,5,1,7,2,none,0,0,0⟩) (s:=St.new 100 1000) 3 9 w5 HG5.out HW5.out.tb (.inl rfl) HP5.out iA HGN.out.1 HGN.out.2.1 HGN.out.2.2.1 (by have:=(may_good (l:=s.lt) (k:=5) (by omega) (by omega) (by rw[HL5.out]) (by rw[HL5.out];exact Int.le_refl _)).2;rw[HL5.out] at this;exact this) rfl (by omega) (by rw[HL5.out]) (by decide) (by omega) (by omega)
  rw[show z2c (St.new 100 1000) ⟨x,5,1,7,2,none,0,0,0⟩=St.new 100 1000 from rfl,eA] at hI
  refine hI.mono ?_
  rintro e w6 ⟨rfl,hG,hP,hM⟩
  clear hI
  have HG6:Hid (w6.heap[gb]?=some (GBlk ⟨x,5,1,7,2,some p,1,0,0⟩)):=hid hG
  have HP6:Hid (z0i w6 p m SB):=hid hP
  have HM6:=hid hM
  have HNR:=hid (gown_noRow HG5.out HP5.out)
  clear hG hP hM HP5 HG5
  go_wp2_with fail
  have hI:=gCommit_yes (s:=SB) w6 HG6.out rfl HP6.out iB HGN.out.1 HGN.out.2.1 (by simp only;omega) (by simp only;omega)
  rw[eB] at hI
  refine hI.mono ?_
  rintro e w7 ⟨rfl,_,hP,hM⟩
  clear hI
  have hM7:=HM6.out.trans hM (fun _ _ h=>h)
  obtain⟨g1,g2,g3,g4,g5,g6⟩:=HGN.out
  have hX7:=HW5.out.tb.mod hM7 g3
  have hT7:=HW5.out.tp.mod hM7 HNR.out g6.1 g6.2.1 g6.2.2.1 g6.2.2.2.1 g6.2.2.2.2
  have hA7:=(hM7.block ab (lt_of_block HKA5.out) g4).trans HKA5.out
  have hH7:=(hM7.block hb (lt_of_block HKH5.out) g5).trans HKH5.out
  have hB7:=z2h HB5.out hM7 (fun k hk=>by have:=HGE.out;rcases hk with e|e|e<;>omega)
  have HX7:=hid hX7
  have HT7:=hid hT7
  have HA7:=hid hA7
  have HH7:=hid hH7
  have HB7:=hid hB7
  have HP7:Hid (z0i w7 p m SC):=hid hP
  clear g1 g2 g3 g4 g5 g6 hX7 hT7 hA7 hH7 hB7 hM7 hM hP HM6 HG6 HP6 HNR HW5 HKA5 HKH5 HB5 HGN HGE
  go_wp2_with fail
  have hm5:5∈tens s.lt 16:=z2d.2 ⟨by omega,by omega,by rw[HL5.out];rfl⟩
  have hle:(s.Es 5).length<=400:=by
   obtain⟨R,hR⟩:=(HI.out.tens.ten 5 p (by rw[HL5.out])).2.post
   have:=ents_le hR
   rwa [HI.out.len] at this
  refine (below_law (n:=5) w7 HX7.out HT7.out HI.out.tens (by rw[HI.out.len];omega) (by omega)).mono ?_
  rintro e w8 ⟨⟨v8,rfl,hO8⟩,hb8⟩
  rw[listT_all hm5] at hO8
  have hls:=flat_le (f:=fun e:ByteArray × ByteArray=>[e.1,e.2]) (k:=2) (l:=z1d 5 (s.Es 5)) fun e _=>by simp
  rw[show (z1d 5 (s.Es 5)).length=(s.Es 5).length by simp[z1d]] at hls
  have HAD8:Hid (AD w w8 x t sb sg kb km):=hid ⟨HB7.out.trans (hb8.mono HB7.out.size),HAD.out.lo,by
   obtain⟨_,a,_⟩:=HT7.out
   have h1:=hb8.size
   have h2:=HX7.out.lt
   have h3:=lt_of_block a.ht
   have h4:=a.hs.blt
   have h5:=a.hs.glt
   have h6:=a.hk.lt
   omega,HXX.out,HR.out⟩
  have HAW8:Hid (AW w8 x t sb sg kb km s L w8):=hid ⟨HX7.out.keep hb8,HT7.out.keep hb8,Mod.refl _ _,fun n q hn hq=>absurd hq (HNO'.out n q hn),fun n m p q _ hn _ hp _=>absurd hp (HNO'.out n p hn)⟩
  have HP8:=hid (HP7.out.keep hb8)
  have HA8:=hid (z0b HA7.out hb8 (lt_of_block HA7.out))
  have HH8:=hid (z0b HH7.out hb8 (lt_of_block HH7.out))
  have HO8:=hid hO8
  have HLS:=hid (show ((z1d 5 (s.Es 5)).flatMap fun e=>[e.1,e.2]).length<=1000000 by omega)
  have HW7:=hid (show x<w7.heap.size/\sg<w7.heap.size/\km<w7.heap.size by obtain⟨_,a,_⟩:=HT7.out;exact⟨HX7.out.lt,a.hs.glt,a.hk.lt.2⟩)
  obtain⟨E5,hE5⟩:∃ E5,s.Es 5=E5:=⟨_,rfl⟩
  rw[hE5] at HLS HO8
  have HE5:=hid hE5
  clear hm5 hle hO8 hb8 hls hE5 HX7 HT7 HP7 HA7 HH7 HB7 HNO' HAD
  go_wp2_with fail
  go_loopw [14] (fun iv wr=>∃ (i:Nat) (s':ASt) (L':List (RefK × Wd)),i<=100/\i<=len1/\iv=.int .i64 i/\AI s' (61+2 * i)/\AW w8 x t sb sg kb km s' L' wr/\s'.lt 5=⟨1,(j:Int),pj.gen+1,some p⟩/\s'.Es 5=E5) (fun iv _=>100 - (intOf iv).toNat)
  case atStart=>exact⟨0,s,L,by omega,by omega,rfl,HI.out,HAW8.out,HL5.out,HE5.out⟩
  case round =>
   clear HI HAW8 HL5 HE5
   obtain⟨i,s',L',hi,hi2,rfl,hI,hW,h5,hE⟩:=hrel
   by_cases hc:i<len1/\i<100
   ·obtain⟨hc1,hc2⟩:=hc
    have d1:decide ((i:Int)<len1)=true:=by simp;omega
    have d2:decide ((i:Int)<100)=true:=by simp;omega
    obtain⟨bl,off,rfl,hbl,hst⟩:=H1.out (by omega)
    obtain⟨hst,hn,hm⟩:=hst i hc1
    have hst:∀ j,j<8->wr.cell? ⟨bl,off+i * 8+j,none⟩=(SRow (ds i))[j]?:=fun j hj=>(World.cell?_of_block (w:=w) ((HAD8.out.bel hW.md).block bl hbl)).trans (hst j hj)
    generalize ds i=v at *
    obtain⟨wh,tn,n,m',gen,rt,dd,key⟩:=v
    have c0:=hst 0 (by omega)
    have c1:=hst 1 (by omega)
    have c2:=hst 2 (by omega)
    have c3:=hst 3 (by omega)
    have c4:=hst 4 (by omega)
    have c5:=hst 5 (by omega)
    have c6:=hst 6 (by omega)
    have c7:=hst 7 (by omega)
    simp only[SRow,List.getElem?_cons_zero,List.getElem?_cons_succ,Nat.add_zero] at c0 c1 c2 c3 c4 c5 c6 c7
    simp only at hn hm
    have HI:=hid hI
    have HW:=hid hW
    have H5':=hid (And.intro h5 hE)
    have HNM:=hid (And.intro hn hm)
    clear hst hI hW h5 hE hn hm
    go_upto_if 97 with fail
    have HNB:=hid (z0a wr (.cells #[.int .i64 wh,.int .i64 tn,.int .i64 n,.int .i64 m',.int .u32 gen,.int .u8 rt,.int .i64 dd,.string key] 63 (0,0)))
    have nb1:=cell_of HNB.out 1
    have nbf:=z0e HNB.out
    go_cut [] from 81 to 201 (fun wx=>∃ tn':Int,tn'≠5/\wx.heap[wr.heap.size]?=some (.cells #[.int .i64 wh,.int .i64 tn',.int .i64 n,.int .i64 m',.int .u32 gen,.int .u8 rt,.int .i64 dd,.string key] 63 (0,0))/\Below wr.heap.size wr wx)
    case first =>
     by_cases h:tn=5
     ·have hq:(tn == 5)=true:=by simp[h]
      clear h
      go_wp2_with fail
      go_meet
      case rel=>exact⟨6,by decide,z0a wr (.cells #[.int .i64 wh,.int .i64 6,.int .i64 n,.int .i64 m',.int .u32 gen,.int .u8 rt,.int .i64 dd,.string key] 63 (0,0)),(Below.refl _ _).alloc (Nat.le_refl _) _⟩
     ·have hq:(tn == 5)=false:=beq_false_of_ne h
      have HN5:=hid h
      clear h
      go_wp2_with fail
      go_meet
      case rel=>exact⟨tn,HN5.out,HNB.out,(Below.refl _ _).alloc (Nat.le_refl _) _⟩
    case rest =>
     obtain⟨tn',htn,hB,hbx⟩:=hcut
     clear nb1 nbf HNB c0 c1 c2 c3 c4 c5 c6 c7
     have HW1:=hid (HW.out.keep hbx)
     have s0:=cell_of hB 0
     have s1:=cell_of hB 1
     have s2:=cell_of hB 2
     have s3:=cell_of hB 3
     have s7:=cell_of hB 7
     have sf:=z0e hB
     have HTN:=hid htn
     have HSB:=hid hB
     have HR2:=hid (show 61+2 * i<390 by omega)
     have HSK:=hid (show w8.heap.size<=wr.heap.size from HW.out.md.size)
     clear hB hbx HW htn
     generalize wr.heap.size=sbk at *
     go_upto_block 4 with (go_at_call 15;refine (pick_any wh 5 _ _ (by decide) (by decide) rfl).mono ?_;rintro e wp ⟨rfl,rfl⟩)
     have hp5:wh % 5=0\/wh % 5=1\/wh % 5=2\/wh % 5=3\/wh % 5=4:=by omega
     generalize wh % 5=pk at *
     go_cut [16,17,18,19,20,21] from 81 to 201 (fun _ _ _ _ _ _ wx=>∃ (s2:ASt) (L2:List (RefK × Wd)),AI s2 (61+2 * i+2)/\AW w8 x t sb sg kb km s2 L2 wx/\s2.lt 5=⟨1,(j:Int),pj.gen+1,some p⟩/\s2.Es 5=E5)
     case first =>
      rcases hp5 with rfl|rfl|rfl|rfl|rfl
      ·go_wp2_with fail
       refine (a_create tn' _ _ HAD8.out HW1.out HI.out HR2.out HTN.out (Purse.Inv.new (u64_in n).1 (u64_in n).2 (u64_in m').1 (u64_in m').2)).mono ?_
       rintro e wq ⟨⟨v,rfl⟩,s2,L2,hI2,hW2,hS⟩
       have HE:=hid (And.intro hI2 (And.intro hW2 hS))
       clear hI2 hW2 hS
       go_wp2_with fail
       go_meet
       case rel=>exact⟨s2,L2,HE.out.1,HE.out.2.1,HE.out.2.2.1.trans H5'.out.1,HE.out.2.2.2.trans H5'.out.2⟩
      ·go_wp2_with fail
       refine (a_remove tn' HAD8.out HW1.out HI.out HTN.out).mono ?_
       rintro e wq ⟨⟨v,rfl⟩,s2,L2,hI2,hW2,hS⟩
       have HE:=hid (And.intro hI2 (And.intro hW2 hS))
       clear hI2 hW2 hS
       go_wp2_with fail
       go_meet
       case rel=>exact⟨s2,L2,HE.out.1,HE.out.2.1,HE.out.2.2.1.trans H5'.out.1,HE.out.2.2.2.trans H5'.out.2⟩
      ·go_wp2_with fail
       refine (a_revoke tn' HAD8.out HW1.out HI.out HR2.out HTN.out).mono ?_
       rintro e wq ⟨⟨v,rfl⟩,s2,L2,hI2,hW2,hS⟩
       have HE:=hid (And.intro hI2 (And.intro hW2 hS))
       clear hI2 hW2 hS
       go_wp2_with fail
       go_meet
       case rel=>exact⟨s2,L2,HE.out.1,HE.out.2.1,HE.out.2.2.1.trans H5'.out.1,HE.out.2.2.2.trans H5'.out.2⟩
      ·go_wp2_with fail
       refine (a_issue tn' HW1.out HTN.out).mono ?_
       rintro e wq ⟨⟨th,gh,rh,vh,rfl,hiss⟩,hWq,hbq⟩
       have hk:=z0a wq (.cells #[.int .i64 th,.int .u32 gh,.int .u8 rh] 51 (0,0))
       have k0:=cell_of hk 0
       have k1:=cell_of hk 1
       have k2:=cell_of hk 2
       have HW3:=hid (hWq.keep ((Below.refl _ wq).alloc (Nat.le_refl _) (.cells #[.int .i64 th,.int .u32 gh,.int .u8 rh] 51 (0,0))))
       have HSB3:=hid (z0c (o':=(.cells #[.int .i64 th,.int .u32 gh,.int .u8 rh] 51 (0,0))) (z0b HSB.out hbq (lt_of_block HSB.out)))
       have HIS:=hid hiss
       clear hk hiss hWq hbq s0 s1 s2 s3 s7 sf HW1 HSB
       go_wp2_with fail
       generalize wq.alloc (.cells #[.int .i64 th,.int .u32 gh,.int .u8 rh] 51 (0,0))=W3 at *
       refine (Gate_at x th gh rh 2 W3).mono ?_
       rintro e wg ⟨qb,rfl,hG,hqb,hbg⟩
       have HWg:=hid (HW3.out.keep hbg)
       have HGg:=hid hG
       have hSg:=z0b HSB3.out hbg (lt_of_block HSB3.out)
       have s2:=cell_of hSg 2
       have s3:=cell_of hSg 3
       have HQ:=hid (show w8.heap.size<=qb/\∀ k q,k≠5->(s'.lt k).purse=some q->q≠qb/\s'.pm k≠qb from ⟨by have:=HW3.out.md.size;omega,fun k q hk hq=>by have:=(HW3.out.pu k q hk hq).1.lt;omega⟩)
       clear hG hqb hbg hSg k0 k1 k2 HW3 HSB3
       go_wp2_with fail
       refine (a_reserve n m' HAD8.out HWg.out HI.out HR2.out HGg.out HQ.out HIS.out HNM.out.1 HNM.out.2).mono ?_
       rintro e wv ⟨⟨f,rfl,hf⟩,s2',hI2,hAG,hS⟩
       have HAG:=hid hAG
       have HI2:=hid hI2
       have HS:=hid hS
       clear hI2 hAG hS s2 s3 HWg HGg HQ
       by_cases hf0:f=0
       ·obtain rfl:=hf hf0
        subst hf0
        clear hf
        go_wp2_with fail
        refine (a_commit HAD8.out HAG.out HI2.out).mono ?_
        rintro e wz ⟨rfl,s3',hI3,hW3,hS3⟩
        have HE:=hid (And.intro (hI3.more (show 61+2 * i+1+1<=61+2 * i+2 by omega)) (And.intro hW3 (HS.out.trans hS3)))
        clear hI3 hW3 hS3 HAG HI2
        go_wp2_with fail
        go_meet
        case rel=>exact⟨s3',_,HE.out.1,HE.out.2.1,HE.out.2.2.1.trans H5'.out.1,HE.out.2.2.2.trans H5'.out.2⟩
       ·have hfq:(f == 0)=false:=beq_false_of_ne hf0
        clear hf hf0
        go_wp2_with fail
        refine (a_commit HAD8.out HAG.out HI2.out).mono ?_
        rintro e wz ⟨rfl,s3',hI3,hW3,hS3⟩
        have HE:=hid (And.intro (hI3.more (show 61+2 * i+1+1<=61+2 * i+2 by omega)) (And.intro hW3 (HS.out.trans hS3)))
        clear hI3 hW3 hS3 HAG HI2
        go_wp2_with fail
        go_meet
        case rel=>exact⟨s3',_,HE.out.1,HE.out.2.1,HE.out.2.2.1.trans H5'.out.1,HE.out.2.2.2.trans H5'.out.2⟩
      ·rcases ten_cases s'.lt tn' with ha|⟨k,q,rfl,q1,q2,hq⟩
       ·have HAN:=hid (anchor_no tn' wc HW1.out.tb ha)
        clear ha
        go_wp2_with fail
        refine HAN.out.mono ?_
        rintro e wq ⟨rfl,hb⟩
        have HWq:=hid ((HW1.out.keep hb).keep ((Below.refl _ wq).alloc (Nat.le_refl _) (.cells #[.int .i64 0,.int .u32 0] 36 (0,0))))
        clear hb s0 s1 s2 s3 s7 sf
        go_wp2_with fail
        go_meet
        case rel=>exact⟨s',L',HI.out.more (by omega),HWq.out,H5'.out.1,H5'.out.2⟩
       ·have hA:=Anchor_at wc HW1.out.tb q1 q2 hq
        rw[(HI.out.tens.ten k q hq).1] at hA
        have HAN:=hid hA
        have hco:=codeB_coded (R.keyOf_size key)
        have HLC:=hid (fun w1=>R.lcode_at (c:=key) w1)
        generalize codeB (R.keyOf key)=c at *
        obtain⟨s2',L2,hI2,hl2,hS2,hput⟩:=a_put (v:=⟨#[119]⟩) HAD8.out HI.out HR2.out hq hco (by decide) L'
        have HPUT:=hid hput
        have HI2:=hid hI2
        have HS2:=hid (hS2 (by have:=HTN.out;omega))
        clear hA hco hI2 hl2 hS2 hput q1 q2 hq s0 s2 s3
        go_wp2_with fail
        refine HAN.out.mono ?_
        rintro e wq ⟨rfl,hb⟩
        have hbq:=hb.alloc hb.size (.cells #[.int .i64 (s'.an k:Int),.int .u32 (s'.lt k).agen] 36 (0,0))
        have HW4:=hid (HW1.out.keep hbq)
        have HSB4:=hid (z0b HSB.out hbq (lt_of_block HSB.out))
        have HRB4:=hid (z0a wq (.cells #[.int .i64 (s'.an k:Int),.int .u32 (s'.lt k).agen] 36 (0,0)))
        have HSI:=hid (show sbk<wq.heap.size by have:=lt_of_block HSB.out;have:=hb.size;omega)
        clear hb hbq s1 s7 sf HW1 HSB HAN
        go_wp2_with fail
        generalize wq.alloc (.cells #[.int .i64 (s'.an k:Int),.int .u32 (s'.lt k).agen] 36 (0,0))=Wq at *
        generalize wq.heap.size=rq at *
        have HMB:Hid (∀ D' xs' w1,VT [0,1,2,3,4] (fun j'=>([.pointer (some ⟨t,0,none⟩),.agg #[.int .i64 (s'.an k:Int),.int .u32 (s'.lt k).agen],.pointer (some ⟨sbk,7,none⟩),.string key,.string c]:List Value)[j']?.getD undef) (fun _ _=>True) 5 (fun w1=>Below Wq.heap.size Wq w1) (fun w1=>AW w8 x t sb sg kb km s2' L2 w1/\(w1).heap[rq]?=some (.cells #[.int .i64 (s'.an k:Int),.int .u32 (s'.lt k).agen] 36 (0,0))/\(w1).heap[sbk]?=some (.cells #[.int .i64 wh,.int .i64 (k:Int),.int .i64 n,.int .i64 m',.int .u32 gen,.int .u8 rt,.int .i64 dd,.string key] 63 (0,0))) D' xs' w1->w1.heap[rq]?=some (.cells #[.int .i64 (s'.an k:Int),.int .u32 (s'.lt k).agen] 36 (0,0))/\w1.heap[sbk]?=some (.cells #[.int .i64 wh,.int .i64 (k:Int),.int .i64 n,.int .i64 m',.int .u32 gen,.int .u8 rt,.int .i64 dd,.string key] 63 (0,0))):=hid fun D' xs' w1 hJ=>by
         have:=hJ.p
         cases hd:D' 5<;>rw[hd] at this
         ·exact⟨z0b HRB4.out this (lt_of_block HRB4.out),z0b HSB4.out this (lt_of_block HSB4.out)⟩
         ·exact this.2
        have HS3:Hid (∀ w1 w',Below Wq.heap.size Wq w1->Mod (TOwn sg km) w1 w'->w'.heap[rq]?=some (.cells #[.int .i64 (s'.an k:Int),.int .u32 (s'.lt k).agen] 36 (0,0))/\w'.heap[sbk]?=some (.cells #[.int .i64 wh,.int .i64 (k:Int),.int .i64 n,.int .i64 m',.int .u32 gen,.int .u8 rt,.int .i64 dd,.string key] 63 (0,0))):=hid fun w1 w' hb hM=>by
         have h1:=HAD8.out.hi
         have h2:=HSK.out
         have h3:=HSI.out
         exact⟨(hM.block rq (Nat.lt_of_lt_of_le (lt_of_block HRB4.out) hb.size) (fun e=>by rcases e with e|e<;>omega)).trans (z0b HRB4.out hb (lt_of_block HRB4.out)),(hM.block sbk (Nat.lt_of_lt_of_le (lt_of_block HSB4.out) hb.size) (fun e=>by rcases e with e|e<;>omega)).trans (z0b HSB4.out hb (lt_of_block HSB4.out))⟩
        refine z2i 6 (VT [0,1,2,3,4] (fun j'=>([.pointer (some ⟨t,0,none⟩),.agg #[.int .i64 (s'.an k:Int),.int .u32 (s'.lt k).agen],.pointer (some ⟨sbk,7,none⟩),.string key,.string c]:List Value)[j']?.getD undef) (fun _ _=>True) 5 (fun w1=>Below Wq.heap.size Wq w1) (fun w1=>AW w8 x t sb sg kb km s2' L2 w1/\(w1).heap[rq]?=some (.cells #[.int .i64 (s'.an k:Int),.int .u32 (s'.lt k).agen] 36 (0,0))/\(w1).heap[sbk]?=some (.cells #[.int .i64 wh,.int .i64 (k:Int),.int .i64 n,.int .i64 m',.int .u32 gen,.int .u8 rt,.int .i64 dd,.string key] 63 (0,0)))) (by kernel_rfl) (by kernel_rfl) (by kernel_rfl) (VT.start ((Below.refl _ _).drew)) ?_ ?_
        ·dsimp only[List.take,z1c,dsts,fill]
         refine⟨?_,?_,?_,?_,?_,?_⟩
         ·intro D xs w1 hDk hwt hJ
          have HJ:=hid hJ
          have HD:=hid hDk
          clear hDk hwt hJ
          go_wp2_with (fail)
          refine⟨.pointer (some ⟨t,0,none⟩),by kernel_rfl,?_⟩
          try (intro q h;obtain rfl:=h rfl)
          exact VT.calm HJ.out HD.out (by decide) (fun _=>rfl) (trivial) id id
         ·intro D xs w1 hDk hwt hJ
          have hk4:=(HMB.out _ _ _ hJ).1
          have k0:=cell_of hk4 0
          have k1:=cell_of hk4 1
          clear hk4
          have HJ:=hid hJ
          have HD:=hid hDk
          clear hDk hwt hJ
          go_wp2_with (fail)
          refine⟨.agg #[.int .i64 (s'.an k:Int),.int .u32 (s'.lt k).agen],by kernel_rfl,?_⟩
          try (intro q h;obtain rfl:=h rfl)
          exact VT.calm HJ.out HD.out (by decide) (fun _=>rfl) (trivial) id id
         ·intro D xs w1 hDk hwt hJ
          have HJ:=hid hJ
          have HD:=hid hDk
          clear hDk hwt hJ
          go_wp2_with (fail)
          refine⟨.pointer (some ⟨sbk,7,none⟩),by kernel_rfl,?_⟩
          try (intro q h;obtain rfl:=h rfl)
          exact VT.calm HJ.out HD.out (by decide) (fun _=>rfl) (trivial) id id
         ·intro D xs w1 hDk hwt hJ
          rw[show xs 2=.pointer (some ⟨sbk,7,none⟩) from hJ.v 2 (hwt 2 (eM (by kernel_rfl))) (by decide)]
          have s7:=cell_of (HMB.out _ _ _ hJ).2 7
          have HJ:=hid hJ
          have HD:=hid hDk
          clear hDk hwt hJ
          go_wp2_with (fail)
          refine⟨.string key,by kernel_rfl,?_⟩
          try (intro q h;obtain rfl:=h rfl)
          exact VT.calm HJ.out HD.out (by decide) (fun _=>rfl) (trivial) id id
         ·intro D xs w1 hDk hwt hJ
          rw[show xs 3=.string key from hJ.v 3 (hwt 3 (eM (by kernel_rfl))) (by decide)]
          have HJ:=hid hJ
          have HD:=hid hDk
          clear hDk hwt hJ
          go_wp2_with (go_at_call 9;refine (HLC.out _).mono ?_;rintro e w' ⟨rfl,rfl⟩)
          refine⟨.string c,by kernel_rfl,?_⟩
          try (intro q h;obtain rfl:=h rfl)
          exact VT.calm HJ.out HD.out (by decide) (fun _=>rfl) (trivial) id id
         ·intro D xs w1 hDk hwt hJ
          rw[show xs 0=.pointer (some ⟨t,0,none⟩) from hJ.v 0 (hwt 0 (eM (by kernel_rfl))) (by decide)]
          rw[show xs 1=.agg #[.int .i64 (s'.an k:Int),.int .u32 (s'.lt k).agen] from hJ.v 1 (hwt 1 (eM (by kernel_rfl))) (by decide)]
          rw[show xs 4=.string c from hJ.v 4 (hwt 4 (eM (by kernel_rfl))) (by decide)]
          have HB0:=hid (hJ.p0 hDk)
          have HJ:=hid hJ
          have HD:=hid hDk
          clear hDk hwt hJ
          go_wp2_with (go_at_call 8;refine (HPUT.out w1 (HW4.out.keep HB0.out)).mono ?_;rintro e w5 ⟨⟨d,rfl⟩,hW5,hM5⟩;go_loud (have H5:=hid (And.intro hW5 (HS3.out _ _ HB0.out hM5));clear hW5 hM5))
          refine⟨.tuple #[d,.int .i64 0],by kernel_rfl,?_⟩
          try (intro q h;obtain rfl:=h rfl)
          exact VT.turn HJ.out HD.out (fun h=>absurd h (by decide)) (trivial) (H5.out)
        intro D xs w5 hD hJ
        have HW5:=hid (hJ.p1 (hD 5 (by omega))).1
        clear hD hJ HPUT HW4 HMB HS3 HSB4 HRB4
        dsimp only[List.take,dsts,fill,List.drop]
        go_wp2_with fail
        go_meet
        case rel=>exact⟨s2',L2,HI2.out,HW5.out,HS2.out.1.trans H5'.out.1,HS2.out.2.trans H5'.out.2⟩
     case rest =>
      obtain⟨sz,Lz,hI2,hW2,h52,hE2⟩:=hcut
      have hP:=HP8.out.mod hW2.md (fun e=>by have:=HPM.out;rcases e with e|e|e<;>omega) (fun e=>by have:=HPM.out;rcases e with e|e|e<;>omega)
      have no:∀ q,hb<=q->¬ COwn x sg km q:=fun q hq e=>by have:=HLT3.out;rcases e with e|e|e<;>omega
      have hka:=(hW2.md.block ab (lt_of_block HA8.out) (no _ (by have:=HHA.out;omega))).trans HA8.out
      have hkh:=(hW2.md.block hb (lt_of_block HH8.out) (no _ (Nat.le_refl _))).trans HH8.out
      have hH:=tHas_at (n:=5) (p:=p) (s:=SC) wc hW2.tb (by omega) (by omega) (by rw[h52]) hP
      rw[show SC.hk=3 from rfl,show SC.hb=9 from rfl] at hH
      have HTH:=hid hH
      have HW2:=hid hW2
      have HI2:=hid hI2
      have H52:=hid h52
      have HE2:=hid hE2
      have HKA:=hid hka
      have HKH:=hid hkh
      have HC2:=hid (And.intro hc1 hc2)
      clear hI2 hW2 h52 hE2 hP no hka hkh hH HI HR2 HTN HSB HNM H5' s0 s1 s2 s3 s7 sf HW1 hp5 hc1 hc2
      go_wp2_with fail
      refine HTH.out.mono ?_
      rintro e wq ⟨rfl,hb1⟩
      have hbq:=hb1.alloc hb1.size (.cells #[.int .u64 3,.int .u64 9] 33 (0,0))
      have HW3:=hid (HW2.out.keep hbq)
      have HKA3:=hid (z0b HKA.out hbq (lt_of_block HKA.out))
      have HKH3:=hid (z0b HKH.out hbq (lt_of_block HKH.out))
      have HL3:=hid (z0a wq (.cells #[.int .u64 3,.int .u64 9] 33 (0,0)))
      clear hb1 hbq HW2 HKA HKH HTH
      go_wp2_with fail
      generalize wq.alloc (.cells #[.int .u64 3,.int .u64 9] 33 (0,0))=W3 at *
      generalize wq.heap.size=lq at *
      have hA:=Anchor_at (n:=5) (p:=p) W3 HW3.out.tb (by omega) (by omega) (by rw[H52.out])
      rw[H52.out] at hA
      refine hA.mono ?_
      rintro e wa ⟨rfl,hb1⟩
      clear hA
      have hbq:=hb1.alloc hb1.size (.cells #[.int .i64 (j:Int),.int .u32 (pj.gen+1)] 36 (0,0))
      have HW4:=hid (HW3.out.keep hbq)
      have HKA4:=hid (z0b HKA3.out hbq (lt_of_block HKA3.out))
      have HKH4:=hid (z0b HKH3.out hbq (lt_of_block HKH3.out))
      have HL4:=hid (z0b HL3.out hbq (lt_of_block HL3.out))
      have HR4:=hid (z0a wa (.cells #[.int .i64 (j:Int),.int .u32 (pj.gen+1)] 36 (0,0)))
      have k0:=cell_of HKH4.out 0
      have k1:=cell_of HKH4.out 1
      have k2:=cell_of HKH4.out 2
      clear hb1 hbq HW3 HKA3 HKH3 HL3
      go_wp2_with fail
      generalize wa.alloc (.cells #[.int .i64 (j:Int),.int .u32 (pj.gen+1)] 36 (0,0))=Wa at *
      generalize wa.heap.size=aq at *
      have hG:=Good_at 5 1 7 Wa HW4.out.tb
      have hg:=(may_good (l:=sz.lt) (k:=5) (by omega) (by omega) (by rw[H52.out]) (by rw[H52.out];exact Int.le_refl _)).1
      rw[H52.out] at hg
      rw[show goodB sz.lt 5 1 7=true from hg] at hG
      have HG:=hid hG
      clear hG hg
      refine HG.out.mono ?_
      rintro e w9 ⟨rfl,hb9⟩
      have a0:=cell_of (z0b HKA4.out hb9 (lt_of_block HKA4.out)) 0
      have a1':=cell_of (z0b HKA4.out hb9 (lt_of_block HKA4.out)) 1
      have r0:=cell_of (z0b HR4.out hb9 (lt_of_block HR4.out)) 0
      have r1:=cell_of (z0b HR4.out hb9 (lt_of_block HR4.out)) 1
      have l0:=cell_of (z0b HL4.out hb9 (lt_of_block HL4.out)) 0
      have l1:=cell_of (z0b HL4.out hb9 (lt_of_block HL4.out)) 1
      have HW9:=hid (HW4.out.keep hb9)
      clear hb9 k0 k1 k2
      go_wp2_with fail
      go_roundw
      case rel=>exact⟨i+1,sz,Lz,by have:=HC2.out;omega,by have:=HC2.out;omega,by go_num,by have:=HI2.out;rwa [show 61+2 * i+2=61+2 * (i+1) by omega] at this,HW9.out,H52.out,HE2.out⟩
      case measure=>have:=HC2.out;simp[intOf];omega
   ·have hcase:i=len1\/(i<len1/\i=100):=by omega
    have hm5:5∈tens s'.lt 16:=z2d.2 ⟨by omega,by omega,by rw[h5];rfl⟩
    have hbl:=below_law (n:=5) wr hW.tb hW.tp hI.tens (by rw[hI.len];omega) (by omega)
    rw[listT_all hm5,hE] at hbl
    have h8:=D.own_mod' HO8.out hW.md (fun q hq e=>by have h1:=(D.own_ge' HO8.out hq).1;have h2:=HW7.out;rcases e with e|e|e<;>omega)
    have HBL:=hid hbl
    have H8:=hid h8
    have HBE:=hid (HAD8.out.bel hW.md)
    clear hm5 hbl h8 hI hW h5 hE hc HO8 HAD8 HP8 HA8 HH8
    rcases hcase with rfl|⟨hc1,rfl⟩
    ·go_wp2_with fail
     refine HBL.out.mono ?_
     rintro e wb ⟨⟨vb,rfl,hOb⟩,hbb⟩
     have HS:=hid (same_at wb (D.own_mod' (S:=fun _=>False) H8.out (Mod.z0j hbb) (fun _ _ h=>h)) hOb HLS.out)
     have HB1:=hid (HBE.out.trans (hbb.mono HBE.out.size))
     clear hOb hbb
     go_wp2_with fail
     refine HS.out.mono ?_
     rintro e wy ⟨rfl,hby⟩
     have HB2:=hid (HB1.out.trans (hby.mono HB1.out.size))
     clear hby
     go_wp2_with fail
     refine (awake_any wy).mono ?_
     rintro e wz ⟨rfl,hbz⟩
     have HB3:=hid (HB2.out.trans (hbz.mono HB2.out.size))
     clear hbz
     go_wp2_with fail
     go_ret
     exact⟨rfl,HB3.out⟩
    ·have d1:decide (((100:Nat):Int)<len1)=true:=by simp;omega
     go_wp2_with fail
     refine HBL.out.mono ?_
     rintro e wb ⟨⟨vb,rfl,hOb⟩,hbb⟩
     have HS:=hid (same_at wb (D.own_mod' (S:=fun _=>False) H8.out (Mod.z0j hbb) (fun _ _ h=>h)) hOb HLS.out)
     have HB1:=hid (HBE.out.trans (hbb.mono HBE.out.size))
     clear hOb hbb
     go_wp2_with fail
     refine HS.out.mono ?_
     rintro e wy ⟨rfl,hby⟩
     have HB2:=hid (HB1.out.trans (hby.mono HB1.out.size))
     clear hby
     go_wp2_with fail
     refine (awake_any wy).mono ?_
     rintro e wz ⟨rfl,hbz⟩
     have HB3:=hid (HB2.out.trans (hbz.mono HB2.out.size))
     clear hbz
     go_wp2_with fail
     go_ret
     exact⟨rfl,HB3.out⟩
end Go.Proofs.YtgdmfledhhoedaaGreatDoor.T
namespace Go.Burg
open Go Go.RowKit Go.ChangeShapes Go.WideShapes
section
variable {H:Type} {enc:TypeId × Value->H} {P:Program} {w:World} {base:Nat} {spare:Nat->Bool} {held:Bool}
def FlatAt (w:World) (a:Option Addr) (len c:Nat) (good:List Value->Prop):Prop :=
 0<len->∃ bl off,a=some ⟨bl,off,none⟩/\bl<w.heap.size/\∀ i,i<len->∃ cs:List Value,good cs/\∀ j,j<c->w.cell? ⟨bl,off+i * c+j,none⟩=cs[j]?
theorem open_flat {t e:TypeId} {a:Option Addr} {len cap:Nat} {d:DataW H} {p:List MemPlace} (ht:P.underlying t=some (.slice e)) (hc:0<P.cellsOf e) (good:List Value->Prop)
 (hg:∀ n cs x,DataW.trod enc P w base spare held n e cs=some x->good cs) (h:DataW.Trod enc P w base spare held t (.slice a len cap) d p):FlatAt w a len (P.cellsOf e) good:=by
 intro hlen
 obtain⟨fuel,hf⟩:=h
 rcases Deep.open_slice ht hf with ⟨hcs,_⟩|⟨ad,len',cap',m,n,D,Pl,hcs,_,hl,_,hm,_,hall⟩
 ·simp[Value.cells] at hcs
  omega
 ·simp[Value.cells] at hcs
  obtain⟨rfl,rfl,rfl⟩:=hcs
  have hlm:len<=m:=by rw[hm];split<;>omega
  have hcell:∀ i,i<len->∃ cs:List Value,good cs/\cs.length=P.cellsOf e/\∀ j,j<P.cellsOf e->w.cell? ((ad.add (i * P.cellsOf e)).add j)=cs[j]?:=fun i hi=>by
   obtain⟨cs',h1,h2⟩:=hall i (by omega)
   obtain⟨_,h3,h4⟩:=World.cells?_some h1
   exact⟨cs',hg _ _ _ h2,h3,h4⟩
  obtain⟨cs0,_,hl0,h0⟩:=hcell 0 hlen
  have h00:=h0 0 hc
  obtain⟨v,hv⟩:∃ v,cs0[0]?=some v:=⟨cs0[0],by simp[hl0,hc]⟩
  rw[hv] at h00
  have hsp:=World.cell?_spot h00
  have hlt:=World.block_lt_of_cell? _ _ h00
  obtain⟨bl,off,spot⟩:=ad
  have hspot:spot=none:=by simpa[Addr.add] using hsp
  subst hspot
  refine⟨bl,off,rfl,by simpa[Addr.add] using hlt,fun i hi=>?_⟩
  obtain⟨cs,g1,_,g3⟩:=hcell i hi
  refine⟨cs,g1,fun j hj=>?_⟩
  have:=g3 j hj
  rw[Deep.add_add] at this
  rw[<- this]
  congr 1
  unfold Addr.add
  split
  ·rename_i hz
   have h1:i * P.cellsOf e=0:=by omega
   have h2:j=0:=by omega
   rw[h1,h2]
   simp
  ·simp[Nat.add_assoc]
end
end Go.Burg
namespace Go.Proofs.YtgdmfledhhoedaaGreatDoor
open Go Go.ChangeShapes Go.WideShapes Go.ChangeAt Go.RowKit Go.Burg Go.Joins Go.ChangeShapes
theorem own:ownKnob Tryz.prog.godebug=none:=by kernel_rfl
theorem laidOut:laidOutB Tryz.prog=true:=by kernel_rfl
theorem gRooms:Tryz.prog.globalNamed "burgage/node.rooms"=some 0:=by kernel_rfl
theorem tRooms:(Tryz.prog.globals[0]?).map (·.type)=some 212:=by kernel_rfl
abbrev roomsLaid:List (String × DataW Unit):=[("burgage/node.rooms",Rows.laid_burgage_node_rooms)]
theorem door_met (os:Os) (args:Array Value):laidMetH Tryz.prog roomsLaid ((World.doorLaid Tryz.prog 400 os).forCall (fun _ _=>0) ⟨#[],args,[]⟩).memory :=
 laidMetH_of_parts3 (fuel:=8) (laidMet_of_run' 8 (by kernel_rfl) (by kernel_rfl)) (by kernel_rfl) (by kernel_rfl)
variable {held:Bool} {base n:Nat} {w:World}
theorem int_of_trod {H:Type} {enc:TypeId × Value->H} {P:Program} {sp:Nat->Bool} {fuel:Nat} {t:TypeId} {k:IntKind} {c:Value} {y:DataW H × List MemPlace}
 (ht:P.underlying t=some (.int k)) (h:DataW.trod enc P w base sp held fuel t [c]=some y):∃ n,c=.int k n/\y=(.lit (.int k n),[]):=by
 cases fuel with
 | zero=>simp[DataW.trod] at h
 | succ fuel =>
  cases c<;>simp[DataW.trod,ht] at h
  rename_i k' n
  obtain⟨⟨rfl,_⟩,rfl⟩:=h
  exact⟨n,rfl,rfl⟩
theorem cInt6:Tryz.prog.cellsOf 212=6:=by kernel_rfl
theorem cInt:Tryz.prog.cellsOf 3=1:=by kernel_rfl
theorem of_laid {W:World} (h:laidMetH Tryz.prog roomsLaid W):RoomsAt W:=by
 rw[MakeChecks.laidMetH_plain _ _ _ (by kernel_rfl)] at h
 obtain⟨ps,⟨g,t,cs,fuel,p,q,hg,ht,hvar,hd,_,_⟩,_⟩:=h
 obtain rfl:=Option.some.inj (gRooms.symm.trans hg)
 obtain rfl:=Option.some.inj (tRooms.symm.trans ht)
 have hcs:cs=#[.int .i64 0,.int .i64 0,.int .i64 4,.int .i64 16,.int .i64 48,.int .i64 256]:=by
  obtain⟨l⟩:=cs
  cases fuel with
  | zero=>simp[DataW.trod] at hd
  | succ fuel =>
   simp only[DataW.trod,Tryz.underlying212,cInt6,cInt] at hd
   split at hd
   ·rename_i hl
    obtain⟨c0,c1,c2,c3,c4,c5,rfl⟩:∃ c0 c1 c2 c3 c4 c5,l=[c0,c1,c2,c3,c4,c5]:=by
     match l,hl with
     | [a,b,c,d,e,f],_=>exact⟨a,b,c,d,e,f,rfl⟩
    have e:List.range 6=[0,1,2,3,4,5]:=rfl
    rw[e] at hd
    simp only[Option.map_eq_some_iff,List.mapM_cons,List.mapM_nil,Option.bind_eq_bind,Option.bind_eq_some_iff,Option.pure_def,Option.some.injEq] at hd
    obtain⟨xs,⟨y0,h0,_,⟨y1,h1,_,⟨y2,h2,_,⟨y3,h3,_,⟨y4,h4,_,⟨y5,h5,_,rfl,rfl⟩,rfl⟩,rfl⟩,rfl⟩,rfl⟩,rfl⟩,hx⟩:=hd
    obtain⟨n0,rfl,rfl⟩:=int_of_trod Tryz.underlying3 h0
    obtain⟨n1,rfl,rfl⟩:=int_of_trod Tryz.underlying3 h1
    obtain⟨n2,rfl,rfl⟩:=int_of_trod Tryz.underlying3 h2
    obtain⟨n3,rfl,rfl⟩:=int_of_trod Tryz.underlying3 h3
    obtain⟨n4,rfl,rfl⟩:=int_of_trod Tryz.underlying3 h4
    obtain⟨n5,rfl,rfl⟩:=int_of_trod Tryz.underlying3 h5
    simp[Rows.laid_burgage_node_rooms] at hx
    obtain⟨⟨rfl,rfl,rfl,rfl,rfl,rfl⟩,_⟩:=hx
    rfl
   ·cases hd
 subst hcs
 refine⟨fun k v hk=>?_⟩
 have hk6:k<6:=(List.getElem?_eq_some_iff.1 hk).1
 have hc:=World.var?_cell hg hvar k
 rw[hc]
 rcases (by omega:k=0\/k=1\/k=2\/k=3\/k=4\/k=5) with rfl|rfl|rfl|rfl|rfl|rfl<;>cases hk<;>rfl
theorem str_good {H:Type} {enc:TypeId × Value->H} {sp:Nat->Bool} {cs:List Value} {x:DataW H × List MemPlace} (h:DataW.trod enc Tryz.prog w base sp held n 9 cs=some x):∃ s,cs=[.string s]:=by
 match cs,h with
 | [c],h =>
  cases n with
  | zero=>simp[DataW.trod] at h
  | succ n =>
   cases c<;>simp[DataW.trod,Tryz.underlying9] at h
   exact⟨_,rfl⟩
 | [],h =>
  cases n with
  | zero=>simp[DataW.trod] at h
  | succ n=>simp[DataW.trod,Tryz.underlying9] at h
 | a :: b :: r,h =>
  cases n with
  | zero=>simp[DataW.trod] at h
  | succ n=>simp[DataW.trod,Tryz.underlying9] at h
theorem cStr:Tryz.prog.cellsOf 9=1:=by kernel_rfl
theorem list8 {α:Type} (l:List α) (h:l.length=8):∃ a b c d e f g i,l=[a,b,c,d,e,f,g,i]:=by
 match l,h with
 | [a,b,c,d,e,f,g,i],_=>exact⟨a,b,c,d,e,f,g,i,rfl⟩
section
variable {H:Type} {enc:TypeId × Value->H} {w:World} {base:Nat} {sp:Nat->Bool} {held:Bool}
theorem cellI {k:IntKind} {T:TypeId} {v:Value} {x:Option (DataW H × List MemPlace)} (ht:Tryz.prog.underlying T=some (.int k)) (hx:x.isSome=true) (h:DataW.trod enc Tryz.prog w base sp held n T [v]=x):∃ a,v=.int k a/\(Lit.int k a).wf=true:=by
 obtain⟨y,hy⟩:=Option.isSome_iff_exists.1 hx
 rw[hy] at h
 obtain⟨a,h1,_,h2⟩:=DataW.trod_int ht h
 exact⟨a,by simpa using h1,h2⟩
theorem i64_of {n:Int} (h:(Lit.int .i64 n).wf=true):-9223372036854775808<=n/\n<=9223372036854775807:=by
 simp only[Lit.wf,Bool.and_eq_true,decide_eq_true_eq] at h
 exact h
def GoodStep (cs:List Value):Prop:=∃ v:SV,cs=SRow v/\(-9223372036854775808<=v.n/\v.n<=9223372036854775807)/\(-9223372036854775808<=v.m/\v.m<=9223372036854775807)
theorem cellsStep:Tryz.prog.cellsOf 63=8:=by kernel_rfl
theorem good_step (n:Nat) (cs:List Value) (x:DataW H × List MemPlace) (h:DataW.trod enc Tryz.prog w base sp held n 63 cs=some x):GoodStep cs:=by
 obtain⟨xs,m,_,_,hl,hxs,hf⟩:=DataW.trod_struct Tryz.underlying63 h
 rw[cellsStep] at hl
 obtain⟨c0,c1,c2,c3,c4,c5,c6,c7,rfl⟩:=list8 cs hl
 have hsz:xs.length=8:=hxs
 have is:∀ j,j<8->(xs[j]?).isSome=true:=fun j hj=>by simp[hsz,hj]
 have eI:Tryz.prog.cellsOf 3=1:=by kernel_rfl
 have eU:Tryz.prog.cellsOf 34=1:=by kernel_rfl
 have eR:Tryz.prog.cellsOf 49=1:=by kernel_rfl
 have eD:Tryz.prog.cellsOf 57=1:=by kernel_rfl
 have eS:Tryz.prog.cellsOf 9=1:=by kernel_rfl
 have h0:DataW.trod enc Tryz.prog w base sp held m 3 [c0]=xs[0]?:=by simpa[eI] using hf 0 _ rfl
 have h1:DataW.trod enc Tryz.prog w base sp held m 3 [c1]=xs[1]?:=by simpa[eI] using hf 1 _ rfl
 have h2:DataW.trod enc Tryz.prog w base sp held m 3 [c2]=xs[2]?:=by simpa[eI] using hf 2 _ rfl
 have h3:DataW.trod enc Tryz.prog w base sp held m 3 [c3]=xs[3]?:=by simpa[eI] using hf 3 _ rfl
 have h4:DataW.trod enc Tryz.prog w base sp held m 34 [c4]=xs[4]?:=by simpa[eI,eU] using hf 4 _ rfl
 have h5:DataW.trod enc Tryz.prog w base sp held m 49 [c5]=xs[5]?:=by simpa[eI,eU,eR] using hf 5 _ rfl
 have h6:DataW.trod enc Tryz.prog w base sp held m 57 [c6]=xs[6]?:=by simpa[eI,eU,eR,eD] using hf 6 _ rfl
 have h7:DataW.trod enc Tryz.prog w base sp held m 9 [c7]=xs[7]?:=by simpa[eI,eU,eR,eD,eS] using hf 7 _ rfl
 obtain⟨a0,rfl,_⟩:=cellI Tryz.underlying3 (is 0 (by omega)) h0
 obtain⟨a1,rfl,_⟩:=cellI Tryz.underlying3 (is 1 (by omega)) h1
 obtain⟨a2,rfl,w2⟩:=cellI Tryz.underlying3 (is 2 (by omega)) h2
 obtain⟨a3,rfl,w3⟩:=cellI Tryz.underlying3 (is 3 (by omega)) h3
 obtain⟨a4,rfl,_⟩:=cellI Tryz.underlying34 (is 4 (by omega)) h4
 obtain⟨a5,rfl,_⟩:=cellI Tryz.underlying49 (is 5 (by omega)) h5
 obtain⟨a6,rfl,_⟩:=cellI Tryz.underlying57 (is 6 (by omega)) h6
 obtain⟨y,hy⟩:=Option.isSome_iff_exists.1 (is 7 (by omega))
 rw[hy] at h7
 obtain⟨s,hs⟩:=str_good h7
 obtain rfl:c7=.string s:=by simpa using hs
 exact⟨⟨a0,a1,a2,a3,a4,a5,a6,s⟩,rfl,i64_of w2,i64_of w3⟩
theorem steps_of {a:Option Addr} {len:Nat} (h:FlatAt w a len 8 GoodStep):∃ ds,StepsAt w a len ds:=by
 by_cases hlen:0<len
 ·obtain⟨bl,off,ha,hbl,hall⟩:=h hlen
  have:∀ i,i<len->∃ v:SV,(∀ j,j<8->w.cell? ⟨bl,off+i * 8+j,none⟩=(SRow v)[j]?)/\(-9223372036854775808<=v.n/\v.n<=9223372036854775807)/\(-9223372036854775808<=v.m/\v.m<=9223372036854775807):=fun i hi=>by
   obtain⟨cs,⟨v,rfl,ok⟩,hj⟩:=hall i hi
   exact⟨v,hj,ok⟩
  have inst:Inhabited SV:=⟨⟨0,0,0,0,0,0,0,⟨#[]⟩⟩⟩
  obtain⟨ds,hds⟩:=Deep.choose_lt this
  exact⟨ds,fun _=>⟨bl,off,ha,hbl,hds⟩⟩
 ·exact⟨fun _=>⟨0,0,0,0,0,0,0,⟨#[]⟩⟩,fun h=>absurd h hlen⟩
end
set_option maxRecDepth 100000 in
theorem apart_lifted (os:Os) (started:os.Started) (H:Type) (enc:TypeId × Value->H) :
 ReturnsInHanded {} Tryz.checked os 4 .any (fun w args=>(Rows.tableApartSpec.pre enc Tryz.prog Tryz.f4 [] false w args/\laidMetH Tryz.prog roomsLaid w)/\sizedMet enc Tryz.prog Tryz.f4 (OpenSpec.ofChange Rows.tableApartSpec) false w args)
  (Rows.tableApartSpec.post enc Tryz.prog Tryz.f4 false true false false):=by
 refine returnsInHanded_of_change_and (C:=Tryz.checked) (X:=fun w _=>laidMetH Tryz.prog roomsLaid w) (fun _ _ _ hh h=>h.of_heap hh) own started (by kernel_rfl) Tryz.func4
  (ChangeSpec.witness_shaped (enc:=enc) (C:=Tryz.checked) (os:=os) (X:=fun w _=>laidMetH Tryz.prog roomsLaid w) false (World.doorLaid Tryz.prog 400 os) #[.slice none 0 0,.slice none 0 0] 8 rfl (World.shaped_of_RefB (by kernel_rfl) (by kernel_rfl)) (by kernel_rfl) (by kernel_rfl) (by kernel_rfl) (door_met os _)) ?_
 intro W base args ds gs before hval0 hW _ _ hL _
 have hval:∀ (j:Nat) t v,Tryz.f4.params[j]?=some t->args[j]?=some v->Value.okWide Tryz.prog W .any base t v:=hval0
 have hW':=hW
 obtain⟨p,q,hA0,hV,rfl,hfz,hnd⟩:=hW
 have hA:DataW.TrodAll enc Tryz.prog W 0 (fun _=>true) true Tryz.f4.params.toList args.toList ds p:=hA0
 rw[Tryz.params4] at hA hval
 obtain⟨v0,vs0,d0,ds0,p0,q0,hargs,rfl,rfl,h0,r0⟩:=trodAll_cons hA
 obtain⟨v1,vs1,d1,ds1,p1,q1,rfl,rfl,rfl,h1,r1⟩:=trodAll_cons r0
 obtain⟨rfl,rfl,rfl⟩:=trodAll_nil r1
 obtain rfl:args=#[v0,v1]:=by cases args;simp_all
 obtain⟨rfl,rfl⟩:=trodVars_none hV
 have k0:=h0
 have k1:=h1
 have lt0:∀ x∈p0,x.block<W.heap.size:=by obtain⟨m,hm⟩:=k0;exact DataW.trod_lt m _ _ _ hm
 have lt1:∀ x∈p1,x.block<W.heap.size:=by obtain⟨m,hm⟩:=k1;exact DataW.trod_lt m _ _ _ hm
 have hR:=of_laid hL
 clear hA0 hval0
 obtain⟨a0,len0,cap0,zs,rfl,hcells⟩:∃ (a0:Option Addr) (len0 cap0:Nat) (zs:Nat->ByteArray),v0=.slice a0 len0 cap0/\T.ElAt W a0 len0 (fun i=>.string (zs i)):=by
  obtain⟨a0,len0,cap0,rfl⟩:=okWide_slice Tryz.underlying22 (hval 0 22 v0 rfl rfl)
  have hF:=open_flat Tryz.underlying22 (by rw[cStr];omega) (fun cs=>∃ n,cs=[.string n]) (fun n cs x h=>str_good h) h0
  rw[cStr] at hF
  by_cases hl:0<len0
  ·obtain⟨bl,off,rfl,hbl,hall⟩:=hF hl
   refine⟨_,_,_,fun k=>match W.cell? ⟨bl,off+k,none⟩ with|some (.string n)=>n|_=>⟨#[]⟩,rfl,fun _=>⟨bl,off,rfl,hbl,fun k hk=>?_⟩⟩
   obtain⟨cs,⟨n,rfl⟩,hj⟩:=hall k hk
   have:=hj 0 (by omega)
   simp only[Nat.mul_one,Nat.add_zero] at this
   have e:W.cell? ⟨bl,off+k,none⟩=some (.string n):=this
   simp only[e]
  ·exact⟨_,_,_,fun _=>⟨#[]⟩,rfl,fun h=>absurd h hl⟩
 obtain⟨a1,len1,cap1,ds,rfl,hcells1⟩:∃ (a1:Option Addr) (len1 cap1:Nat) (ds:Nat->SV),v1=.slice a1 len1 cap1/\StepsAt W a1 len1 ds:=by
  obtain⟨a1,len1,cap1,rfl⟩:=okWide_slice Tryz.underlying48 (hval 1 48 v1 rfl rfl)
  have hF:=open_flat Tryz.underlying48 (by rw[cellsStep];omega) GoodStep (fun n cs x h=>good_step n cs x h) h1
  rw[cellsStep] at hF
  obtain⟨ds,hds⟩:=steps_of hF
  exact⟨_,_,_,ds,rfl,hds⟩
 refine (T.apart_any a0 a1 len0 cap0 len1 cap1 zs ds W hR hcells hcells1).mono fun e W' ⟨he,bel⟩=>?_
 subst he
 exact⟨_,rfl,_,_,_,[],_,[],hW',trodAll_mk1 (shut_bool Tryz.underlying4 _),(trodAll_cons_mk (Below.trod laidOut (by kernel_rfl) (of_decide_eq_true (by kernel_rfl)) k0 bel lt0) (trodAll_cons_mk (Below.trod laidOut (by kernel_rfl) (of_decide_eq_true (by kernel_rfl)) k1 bel lt1) trodAll_mk0)),rfl,bel.frame _,fun h=>by cases h⟩
theorem apart_over:Rows.TableApartSaid :=
 OpenClaim.holds_of_wide 4 Tryz.f4 rfl rfl rfl rfl rfl rfl rfl ⟨rfl,rfl,rfl,rfl,rfl⟩ rfl rfl rfl rfl rfl (by kernel_rfl) Tryz.func4 (by kernel_rfl)
  (of_decide_eq_true (by kernel_rfl)) (by unfold Func.isWrapper;first|(rw[if_pos (by decide +kernel)];kernel_rfl)|(rw[if_neg (by decide +kernel)];exact⟨rfl,rfl⟩))
  (fun os started H enc _=>apart_lifted os started H enc)
theorem apart_card_proved:Rows.TableApartCardSaid :=
 Claim7.holds_tied_plain_at .later [] [.data] true (true,"6c81ff1b3244c8fd0224996d72260d9e417f34edb1c5e6365844a126dad94317") true
  apart_over (fun _ h=>by cases h) (by kernel_rfl) (fun _ h=>by cases h) tableApart_row_tie rfl ⟨rfl,rfl⟩ (by kernel_rfl) rfl
  (fun f fn hf hfn=>by
   obtain rfl:f=4:=Option.some.inj ((show Tryz.prog.funcNamed "burgage/burgagelaw24.TableApart"=some 4 by kernel_rfl).symm.trans hf) |>.symm
   obtain rfl:fn=Tryz.f4:=(Option.some.inj (Tryz.func4.symm.trans hfn)).symm
   exact⟨by kernel_rfl,fun j t ht=>by
    rw[Tryz.params4] at ht
    have hm:t∈[22,48]:=by simpa using Array.mem_of_getElem? ht
    have hall:([22,48].all fun u=>!Tryz.prog.wantsStandIn u)=true:=by kernel_rfl
    exact (show Tryz.prog.wantsStandIn t=false by simpa using List.all_eq_true.1 hall t hm)⟩)
  (by kernel_rfl)
end Go.Proofs.YtgdmfledhhoedaaGreatDoor
