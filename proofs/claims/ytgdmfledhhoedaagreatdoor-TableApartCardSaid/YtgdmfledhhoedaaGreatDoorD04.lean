/- Part 4 of 27. -/
import Derived.Test.YtgdmfledhhoedaaGreatDoorD03
import Derived.Test.YtgdmfledhhoedaaGreatDoorD01
import Derived.RangeFuncNested
import Derived.RangeFuncBound
import Derived.RangeFuncCalls
import Derived.RangeFuncLeaves
import Derived.Shelf.Abstract
import Derived.Shelf.RegionOpen
import Derived.WalkKit
import Derived.OwnWalkIn
import Derived.TacticsInMore
import Derived.LoopNIn
import Derived.LoopIn
import Derived.Test.YtgdmfledhhoedaaGreatDoorD02
import Derived.Laws.Rows
import Derived.Laws.CopyRow
namespace Go.Proofs.YtgdmfledhhoedaaGreatDoor.M
set_option maxRecDepth 8000
open Go.ChangeShapes Go.WideShapes Go.ChangeAt Go.RowKit Go.Burg
structure NewAt (w0:World) (R:Int) (r:Nat) (D:Nat->Bool) (xs:Nat->Value) (w:World):Prop where
 b:Below w0.heap.size w0 w
 e0:D 0=true->xs 0=.int .i64 R
 e2:D 2=true->xs 2=.int .i64 R
 e1:D 1=true->∃ g,xs 1=.slice (some ⟨g,0,none⟩) r r/\w0.heap.size<=g/\∃ cs,w.heap[g]?=some (.cells cs 36 (0,0))/\cs.size=r * 2/\∀ p,p<r->cs[p * 2]?=some (.int .i64 0)/\cs[p * 2+1]?=some (.int .u32 0)
 e3:D 3=true->∃ g,xs 3=.slice (some ⟨g,0,none⟩) r r/\w0.heap.size<=g/\∃ cs,w.heap[g]?=some (.cells cs 4 (0,0))/\cs.size=r/\∀ p,p<r->cs[p]?=some (.bool false)
section
variable {w0 w w':World} {R:Int} {r:Nat} {D:Nat->Bool} {xs:Nat->Value}
theorem NewAt.start:NewAt w0 R r (fun _=>false) (fun _=>undef) w0.drew:=⟨⟨rfl,rfl,rfl,Nat.le_refl _,fun _ _=>rfl⟩,fun h=>(by cases h),fun h=>(by cases h),fun h=>(by cases h),fun h=>(by cases h)⟩
theorem NewAt.move0 (h:NewAt w0 R r D xs w):NewAt w0 R r (fun j=>D j || j == 0) (fun j=>if j=0 then .int .i64 R else xs j) w :=
 ⟨h.b,fun _=>rfl,fun e=>h.e2 (by simpa using e),fun e=>h.e1 (by simpa using e),fun e=>h.e3 (by simpa using e)⟩
theorem NewAt.move2 (h:NewAt w0 R r D xs w):NewAt w0 R r (fun j=>D j || j == 2) (fun j=>if j=2 then .int .i64 R else xs j) w :=
 ⟨h.b,fun e=>h.e0 (by simpa using e),fun _=>rfl,fun e=>h.e1 (by simpa using e),fun e=>h.e3 (by simpa using e)⟩
theorem NewAt.make1 (h:NewAt w0 R r D xs w) (cs:Array Value) (hb:Below w.heap.size w w') (hg:w'.heap[w.heap.size]?=some (.cells cs 36 (0,0))) (hs:cs.size=r * 2) (hc:∀ p,p<r->cs[p * 2]?=some (.int .i64 0)/\cs[p * 2+1]?=some (.int .u32 0)) :
 NewAt w0 R r (fun j=>D j || j == 1) (fun j=>if j=1 then .slice (some ⟨w.heap.size,0,none⟩) r r else xs j) w':=by
 refine⟨z0d h.b hb h.b.size,fun e=>h.e0 (by simpa using e),fun e=>h.e2 (by simpa using e),fun _=>⟨_,rfl,h.b.size,cs,hg,hs,hc⟩,fun e=>?_⟩
 obtain⟨g,e1,e2,cs',e3,e4⟩:=h.e3 (by simpa using e)
 exact⟨g,e1,e2,cs',(hb.block g (lt_of_block e3)).trans e3,e4⟩
theorem NewAt.make3 (h:NewAt w0 R r D xs w) (cs:Array Value) (hb:Below w.heap.size w w') (hg:w'.heap[w.heap.size]?=some (.cells cs 4 (0,0))) (hs:cs.size=r) (hc:∀ p,p<r->cs[p]?=some (.bool false)) :
 NewAt w0 R r (fun j=>D j || j == 3) (fun j=>if j=3 then .slice (some ⟨w.heap.size,0,none⟩) r r else xs j) w':=by
 refine⟨z0d h.b hb h.b.size,fun e=>h.e0 (by simpa using e),fun e=>h.e2 (by simpa using e),fun e=>?_,fun _=>⟨_,rfl,h.b.size,cs,hg,hs,hc⟩⟩
 obtain⟨g,e1,e2,cs',e3,e4⟩:=h.e1 (by simpa using e)
 exact⟨g,e1,e2,cs',(hb.block g (lt_of_block e3)).trans e3,e4⟩
end
variable {z:Array Value} {n s:Nat}
theorem madeCells_get {j:Nat} (hz:z.size=s) (hs:0<s) (hj:j<n):(madeCells z n)[j]?=z[j % s]?:=by
 have:j % s<z.size:=by rw[hz];exact Nat.mod_lt _ hs
 rw[Array.getElem?_eq_getElem this,<- getElem!_pos z (j % s) this]
 simp[madeCells,hj,hz]
theorem made_block {w0 w:World} {E:TypeId} (hz:z.size=s) (hs:0<s) (hown:w.ownsRow w0.heap.size E s (.slice (some ⟨w0.heap.size,0,none⟩) n n) n (madeCells z (n * s)).toList) :
 ∃ cs,w.heap[w0.heap.size]?=some (.cells cs E (0,0))/\cs.size=n * s/\∀ j,j<n * s->cs[j]?=z[j % s]?:=by
 have hcl:=hown.cellAt
 rcases hown.2 with ⟨h,_⟩|⟨g',cap',cur,h,h2,hg,h3⟩
 ·simp at h
 ·simp only[Value.slice.injEq,Option.some.injEq,Addr.mk.injEq,and_true,true_and] at h
  obtain⟨rfl,rfl⟩:=h
  refine⟨cur,hg,h3.2.2.1,fun j hj=>?_⟩
  rw[<- cell_of hg,hcl j hj,Array.getElem?_toList]
  exact madeCells_get hz hs hj
theorem ManyL.zero {w:World} {gr gu r:Nat} {cs1 cs3:Array Value} (h1:w.heap[gr]?=some (.cells cs1 36 (0,0))/\cs1.size=r * 2/\∀ p,p<r->cs1[p * 2]?=some (.int .i64 0)/\cs1[p * 2+1]?=some (.int .u32 0))
 (h3:w.heap[gu]?=some (.cells cs3 4 (0,0))/\cs3.size=r/\∀ p,p<r->cs3[p]?=some (.bool false)) (r1:48<=r) (r2:r<=256) :
 ManyL 251 36 4 (w.alloc (.cells (List.replicate 256 (Value.int .u16 0)++[Value.slice (some ⟨gr,0,none⟩) r r,Value.slice (some ⟨gu,0,none⟩) r r]).toArray 251 (0,0))) w.heap.size gr gu r []:=by
 have l1:=lt_of_block h1.1
 have l3:=lt_of_block h3.1
 refine⟨⟨⟨fun _=>0,fun _=>0,fun _=>0,fun _=>false⟩,⟨⟨_,z0a _ _,by simp,fun b hb=>?_,?_,?_⟩,⟨cs1,z0m h1.1,h1.2⟩,⟨cs3,z0m h3.1,h3.2⟩,by omega,by omega,?_,r1,r2,fun b _=>Nat.zero_le _⟩,MIs.zero r⟩⟩
 ·rw[List.getElem?_toArray,List.getElem?_append_left (by rw[List.length_replicate];exact hb),List.getElem?_replicate,if_pos hb]
  rfl
 ·rw[List.getElem?_toArray,List.getElem?_append_right (by simp)];simp
 ·rw[List.getElem?_toArray,List.getElem?_append_right (by simp)];simp
 ·intro e
  subst e
  have:=h1.1.symm.trans h3.1
  simp at this
set_option maxRecDepth 20000
set_option maxHeartbeats 4000000
theorem mNew48 (w:World):Calls Tryz.prog 122 #[.int .i64 48] w fun e w'=>∃ x gr gu,e=.returned (.tuple #[.pointer (some ⟨x,0,none⟩),.int .i64 0])/\ManyL 251 36 4 w' x gr gu 48 []/\(w.heap.size<=x/\w.heap.size<=gr/\w.heap.size<=gu)/\Below w.heap.size w w':=by
 obtain⟨i1,hi1,hz1,hs1,hby1⟩:=info_parts (P:=Tryz.prog) (e:=36) (z:=.agg #[.int .i64 0,.int .u32 0]) (size:=2) (bytes:=16) (by kernel_rfl)
 obtain⟨i2,hi2,hz2,hs2,hby2⟩:=info_parts (P:=Tryz.prog) (e:=4) (z:=.bool false) (size:=1) (bytes:=1) (by kernel_rfl)
 have HI1:=hid hi1
 have HZ1:=hid hz1
 have HS1:=hid hs1
 have HY1:=hid hby1
 have HI2:=hid hi2
 have HZ2:=hid hz2
 have HS2:=hid hs2
 have HY2:=hid hby2
 clear hi1 hz1 hs1 hby1 hi2 hz2 hs2 hby2
 go_enter Tryz.func122,Tryz.ntmps122
 go_wp2_with fail
 refine z2i 4 (NewAt w 48 48) (by kernel_rfl) (by kernel_rfl) (by kernel_rfl) ?h0 ?hs ?hend
 case h0=>exact NewAt.start
 case hs =>
  dsimp only[List.take,z1c,dsts,fill]
  refine⟨?_,?_,?_,?_⟩
  ·intro D xs w1 hDk hwt hJ
   have HJ:=hid hJ
   clear hDk hwt hJ
   go_wp2_with fail
   exact⟨.int .i64 48,by kernel_rfl,fun u hu=>by obtain rfl:=hu rfl;exact HJ.out.move0⟩
  ·intro D xs w1 hDk hwt hJ
   have e0:=hJ.e0 (hwt 0 (eM (by kernel_rfl)))
   rw[e0]
   clear e0
   have HJ:=hid hJ
   clear hDk hwt hJ
   refine wpList_make_full _ rfl _ _ 39 rfl w1.heap.size 36 i1 _ 2 Tryz.underlying39 HI1.out HZ1.out HS1.out _ _ _ _ 48 rfl rfl rfl rfl (by rw[HY1.out];omega) (by simp[maxLen]) (Nat.le_refl _) ?_
   intro w2 hown hgr
   go_wp2_with fail
   refine⟨.slice (some ⟨w1.heap.size,0,none⟩) 48 48,by kernel_rfl,?_⟩
   obtain⟨cs,g1,g2,g3⟩:=made_block (s:=2) (n:=48) rfl (by decide) hown
   exact HJ.out.make1 cs ⟨hgr.os,hgr.tape,hgr.output,hgr.size,fun k hk=>hgr.block k hk (by simp)⟩ g1 g2 (fun p hp=>⟨(g3 (p * 2) (by omega)).trans (by rw[show p * 2 % 2=0 by omega];rfl),(g3 (p * 2+1) (by omega)).trans (by rw[show (p * 2+1) % 2=1 by omega];rfl)⟩)
  ·intro D xs w1 hDk hwt hJ
   have HJ:=hid hJ
   clear hDk hwt hJ
   go_wp2_with fail
   exact⟨.int .i64 48,by kernel_rfl,fun u hu=>by obtain rfl:=hu rfl;exact HJ.out.move2⟩
  ·intro D xs w1 hDk hwt hJ
   have e2:=hJ.e2 (hwt 2 (eM (by kernel_rfl)))
   rw[e2]
   clear e2
   have HJ:=hid hJ
   clear hDk hwt hJ
   refine wpList_make_full _ rfl _ _ 245 rfl w1.heap.size 4 i2 _ 1 Tryz.underlying245 HI2.out HZ2.out HS2.out _ _ _ _ 48 rfl rfl rfl rfl (by rw[HY2.out];omega) (by simp[maxLen]) (Nat.le_refl _) ?_
   intro w2 hown hgr
   go_wp2_with fail
   refine⟨.slice (some ⟨w1.heap.size,0,none⟩) 48 48,by kernel_rfl,?_⟩
   obtain⟨cs,g1,g2,g3⟩:=made_block (s:=1) (n:=48) rfl (by decide) hown
   exact HJ.out.make3 cs ⟨hgr.os,hgr.tape,hgr.output,hgr.size,fun k hk=>hgr.block k hk (by simp)⟩ g1 (by omega) (fun p hp=>(g3 p (by omega)).trans (by rw[show p % 1=0 by omega];rfl))
 case hend =>
  intro D xs w1 hD hJ
  dsimp only[List.take,dsts,fill,List.drop]
  obtain⟨gr,e1,l1,cs1,b1,s1,q1⟩:=hJ.e1 (hD 1 (by omega))
  obtain⟨gu,e3,l3,cs3,b3,s3,q3⟩:=hJ.e3 (hD 3 (by omega))
  rw[hJ.e0 (hD 0 (by omega)),e1,hJ.e2 (hD 2 (by omega)),e3]
  have hB:=hJ.b
  clear hJ e1 e3 hD
  have HR:=hid (And.intro l1 (And.intro b1 (And.intro s1 q1)))
  have HU:=hid (And.intro l3 (And.intro b3 (And.intro s3 q3)))
  have HB:=hid hB
  clear l1 b1 s1 q1 l3 b3 s3 q3 hB
  go_wp2
  go_ret2
  have hz:=ManyL.zero (r:=48) HR.out.2 HU.out.2 (by decide) (by decide)
  rw[<- new_cells] at hz
  exact⟨w1.heap.size,gr,gu,rfl,hz,⟨HB.out.size,HR.out.1,HU.out.1⟩,HB.out.alloc HB.out.size _⟩
theorem mNew256 (w:World):Calls Tryz.prog 122 #[.int .i64 256] w fun e w'=>∃ x gr gu,e=.returned (.tuple #[.pointer (some ⟨x,0,none⟩),.int .i64 0])/\ManyL 251 36 4 w' x gr gu 256 []/\(w.heap.size<=x/\w.heap.size<=gr/\w.heap.size<=gu)/\Below w.heap.size w w':=by
 obtain⟨i1,hi1,hz1,hs1,hby1⟩:=info_parts (P:=Tryz.prog) (e:=36) (z:=.agg #[.int .i64 0,.int .u32 0]) (size:=2) (bytes:=16) (by kernel_rfl)
 obtain⟨i2,hi2,hz2,hs2,hby2⟩:=info_parts (P:=Tryz.prog) (e:=4) (z:=.bool false) (size:=1) (bytes:=1) (by kernel_rfl)
 have HI1:=hid hi1
 have HZ1:=hid hz1
 have HS1:=hid hs1
 have HY1:=hid hby1
 have HI2:=hid hi2
 have HZ2:=hid hz2
 have HS2:=hid hs2
 have HY2:=hid hby2
 clear hi1 hz1 hs1 hby1 hi2 hz2 hs2 hby2
 go_enter Tryz.func122,Tryz.ntmps122
 go_wp2_with fail
 refine z2i 4 (NewAt w 256 256) (by kernel_rfl) (by kernel_rfl) (by kernel_rfl) ?h0 ?hs ?hend
 case h0=>exact NewAt.start
 case hs =>
  dsimp only[List.take,z1c,dsts,fill]
  refine⟨?_,?_,?_,?_⟩
  ·intro D xs w1 hDk hwt hJ
   have HJ:=hid hJ
   clear hDk hwt hJ
   go_wp2_with fail
   exact⟨.int .i64 256,by kernel_rfl,fun u hu=>by obtain rfl:=hu rfl;exact HJ.out.move0⟩
  ·intro D xs w1 hDk hwt hJ
   have e0:=hJ.e0 (hwt 0 (eM (by kernel_rfl)))
   rw[e0]
   clear e0
   have HJ:=hid hJ
   clear hDk hwt hJ
   refine wpList_make_full _ rfl _ _ 39 rfl w1.heap.size 36 i1 _ 2 Tryz.underlying39 HI1.out HZ1.out HS1.out _ _ _ _ 256 rfl rfl rfl rfl (by rw[HY1.out];omega) (by simp[maxLen]) (Nat.le_refl _) ?_
   intro w2 hown hgr
   go_wp2_with fail
   refine⟨.slice (some ⟨w1.heap.size,0,none⟩) 256 256,by kernel_rfl,?_⟩
   obtain⟨cs,g1,g2,g3⟩:=made_block (s:=2) (n:=256) rfl (by decide) hown
   exact HJ.out.make1 cs ⟨hgr.os,hgr.tape,hgr.output,hgr.size,fun k hk=>hgr.block k hk (by simp)⟩ g1 g2 (fun p hp=>⟨(g3 (p * 2) (by omega)).trans (by rw[show p * 2 % 2=0 by omega];rfl),(g3 (p * 2+1) (by omega)).trans (by rw[show (p * 2+1) % 2=1 by omega];rfl)⟩)
  ·intro D xs w1 hDk hwt hJ
   have HJ:=hid hJ
   clear hDk hwt hJ
   go_wp2_with fail
   exact⟨.int .i64 256,by kernel_rfl,fun u hu=>by obtain rfl:=hu rfl;exact HJ.out.move2⟩
  ·intro D xs w1 hDk hwt hJ
   have e2:=hJ.e2 (hwt 2 (eM (by kernel_rfl)))
   rw[e2]
   clear e2
   have HJ:=hid hJ
   clear hDk hwt hJ
   refine wpList_make_full _ rfl _ _ 245 rfl w1.heap.size 4 i2 _ 1 Tryz.underlying245 HI2.out HZ2.out HS2.out _ _ _ _ 256 rfl rfl rfl rfl (by rw[HY2.out];omega) (by simp[maxLen]) (Nat.le_refl _) ?_
   intro w2 hown hgr
   go_wp2_with fail
   refine⟨.slice (some ⟨w1.heap.size,0,none⟩) 256 256,by kernel_rfl,?_⟩
   obtain⟨cs,g1,g2,g3⟩:=made_block (s:=1) (n:=256) rfl (by decide) hown
   exact HJ.out.make3 cs ⟨hgr.os,hgr.tape,hgr.output,hgr.size,fun k hk=>hgr.block k hk (by simp)⟩ g1 (by omega) (fun p hp=>(g3 p (by omega)).trans (by rw[show p % 1=0 by omega];rfl))
 case hend =>
  intro D xs w1 hD hJ
  dsimp only[List.take,dsts,fill,List.drop]
  obtain⟨gr,e1,l1,cs1,b1,s1,q1⟩:=hJ.e1 (hD 1 (by omega))
  obtain⟨gu,e3,l3,cs3,b3,s3,q3⟩:=hJ.e3 (hD 3 (by omega))
  rw[hJ.e0 (hD 0 (by omega)),e1,hJ.e2 (hD 2 (by omega)),e3]
  have hB:=hJ.b
  clear hJ e1 e3 hD
  have HR:=hid (And.intro l1 (And.intro b1 (And.intro s1 q1)))
  have HU:=hid (And.intro l3 (And.intro b3 (And.intro s3 q3)))
  have HB:=hid hB
  clear l1 b1 s1 q1 l3 b3 s3 q3 hB
  go_wp2
  go_ret2
  have hz:=ManyL.zero (r:=256) HR.out.2 HU.out.2 (by decide) (by decide)
  rw[<- new_cells] at hz
  exact⟨w1.heap.size,gr,gu,rfl,hz,⟨HB.out.size,HR.out.1,HU.out.1⟩,HB.out.alloc HB.out.size _⟩
end Go.Proofs.YtgdmfledhhoedaaGreatDoor.M
namespace Go.Burg
open Go Go.RowKit
structure MineOk (n₀:Nat) (Mine:World->Nat->Prop):Prop where
 grow:∀ {W W':World} {row:Option Nat} {i:Nat},n₀<=W.heap.size->W.grownBy W' row->(∀ r,row=some r->n₀<=r/\∃ o:Obj,W.heap[r]?=some o/\o.isCells=false)->Mine W' i->Mine W i
structure KpM (n₀:Nat) (Mine:World->Nat->Prop) (A B:World):Prop where
 size:A.heap.size<=B.heap.size
 cells:∀ (i:Nat) (o:Obj),n₀<=i->¬ Mine A i->A.heap[i]?=some o->o.isCells=true->B.heap[i]?=some o
 mine:∀ i,Mine B i->Mine A i\/A.heap.size<=i
theorem z0w {A B:World} (h:Below A.heap.size A B):A.grownBy B none:=⟨h.os,h.tape,h.output,h.size,fun k hk _=>h.block k hk⟩
section
variable {n₀:Nat} {Mine:World->Nat->Prop} {A B C:World}
theorem KpM.refl (n₀:Nat) (Mine:World->Nat->Prop) (A:World):KpM n₀ Mine A A:=⟨Nat.le_refl _,fun _ _ _ _ h _=>h,fun _ h=>.inl h⟩
theorem KpM.trans (h:KpM n₀ Mine A B) (k:KpM n₀ Mine B C):KpM n₀ Mine A C :=
 ⟨Nat.le_trans h.size k.size,fun i o hi hm ho hc=>k.cells i o hi (fun hb=>(h.mine i hb).elim hm (fun hl=>by have:=lt_of_block ho;omega)) (h.cells i o hi hm ho hc) hc,
  fun i hc=>(k.mine i hc).elim (h.mine i) (fun hl=>.inr (Nat.le_trans h.size hl))⟩
theorem KpM.below (hM:MineOk n₀ Mine) (hn:n₀<=A.heap.size) (h:Below A.heap.size A B):KpM n₀ Mine A B :=
 ⟨h.size,fun i _ _ _ ho _=>(h.block i (lt_of_block ho)).trans ho,fun i hb=>.inl (hM.grow hn (z0w h) (fun r e=>by cases e) hb)⟩
theorem KpM.put (hM:MineOk n₀ Mine) (W:World) (l:Nat) (o o':Obj) (hn:n₀<=l) (h:W.heap[l]?=some o) (ho:o.isCells=false):KpM n₀ Mine W (W.putObj l o') :=
 ⟨by simp,fun i o2 _ _ hi hc=>by
  by_cases e:i=l
  ·subst e
   rw[h] at hi
   cases hi
   rw[ho] at hc
   cases hc
  ·exact (World.putObj_heap_other e).trans hi,fun i hb=>.inl (hM.grow (by have:=lt_of_block h;omega) (grownBy_putObj' W l o') (fun r e=>by cases e;exact⟨hn,o,h,ho⟩) hb)⟩
theorem KpM.priv (h:KpM n₀ Mine A B) {c:Nat} (hc:¬ Mine A c) (hl:c<A.heap.size):¬ Mine B c:=fun hb=>(h.mine c hb).elim hc (fun h=>by omega)
theorem MineOk.priv (hM:MineOk n₀ Mine) {c:Nat} (hn:n₀<=A.heap.size) (hc:¬ Mine A c) (h:Below A.heap.size A B):¬ Mine B c:=fun hb=>hc (hM.grow hn (z0w h) (fun r e=>by cases e) hb)
end
def SeqOwnM {α:Type} (Mine:World->Nat->Prop) (P:Program) (g:Nat) (lb:Array Value) (encs:α->Array Value) (n₀:Nat) (S Sp:List α->Prop) (N:Nat) (w:World):Prop :=
 ∀ (l:Nat) (J Jx:List α->World->Prop) (W:World),Below w.heap.size w W->(∀ i,Mine W i->i<W.heap.size)->OwnFrom W.heap.size J->OwnFrom W.heap.size Jx ->
  (∀ pre x W1 m,J pre W1->pre.length<N->YieldAt Fence.wide m P l (encs x) W1 fun e W'=>(e=.returned (.bool true)/\J (pre++[x]) W'/\KpM n₀ Mine W1 W'/\KeepsFrom W.heap.size W1 W')\/(e=.returned (.bool false)/\Jx (pre++[x]) W'/\KeepsFrom W.heap.size W1 W')) ->
  J [] W->Calls P g (#[.func (.yield l) #[] #[]]++lb) W fun e W'=>(∃ v,e=.returned v)/\((∃ xs,S xs/\J xs W')\/∃ pre,Sp pre/\Jx pre W')
def SeqOwn {α:Type} (P:Program) (g:Nat) (lb:Array Value) (encs:α->Array Value) (n₀:Nat) (S Sp:List α->Prop) (N:Nat) (w:World):Prop :=
 ∀ (Mine:World->Nat->Prop),MineOk n₀ Mine->∀ (l:Nat) (J Jx:List α->World->Prop) (W:World),Below w.heap.size w W->(∀ i,Mine W i->i<W.heap.size)->OwnFrom W.heap.size J->OwnFrom W.heap.size Jx ->
  (∀ pre x W1 m,J pre W1->pre.length<N->YieldAt Fence.wide m P l (encs x) W1 fun e W'=>(e=.returned (.bool true)/\J (pre++[x]) W'/\KpM n₀ Mine W1 W'/\KeepsFrom W.heap.size W1 W')\/(e=.returned (.bool false)/\Jx (pre++[x]) W'/\KeepsFrom W.heap.size W1 W')) ->
  J [] W->Calls P g (#[.func (.yield l) #[] #[]]++lb) W fun e W'=>(∃ v,e=.returned v)/\((∃ xs,S xs/\J xs W')\/∃ pre,Sp pre/\Jx pre W')
variable {W W' w:World}
theorem SeqOwn.up {α:Type} {P:Program} {g:Nat} {lb:Array Value} {encs:α->Array Value} {n₀:Nat} {S Sp:List α->Prop} {N N':Nat} (h:SeqOwn P g lb encs n₀ S Sp N w) (hN:N<=N'):SeqOwn P g lb encs n₀ S Sp N' w :=
 fun Mine hM l J Jx W hW hml hJ hJx hY h0=>h Mine hM l J Jx W hW hml hJ hJx (fun pre x W1 m hj hl=>hY pre x W1 m hj (by omega)) h0
variable {B d l:Nat}
theorem own_below {β:Type} {J:β->World->Prop} (hJ:OwnFrom B J) {s:β} {A C:World} (h:J s A) (hb:Below A.heap.size A C):J s C :=
 hJ s A C none h ⟨hb.os,hb.tape,hb.output,hb.size,fun k hk _=>hb.block k hk⟩ (fun r e=>by cases e)
theorem z0o {B':Nat} (h:KeepsFrom B W W') (hB:B<=B'):KeepsFrom B' W W':=⟨h.size,fun k o hk h1 h2=>h.same k o (Nat.le_trans hB hk) h1 h2⟩
theorem z1n (h:Below W.heap.size W W'):KeepsFrom B W W':=⟨h.size,fun k _ _ hk _=>(h.block k (lt_of_block hk)).trans hk⟩
theorem z1f (W:World) (o:Obj) (h:l<B):KeepsFrom B W (W.putObj l o):=⟨by simp,fun k o2 hk h1 _=>(World.putObj_heap_other (by omega)).trans h1⟩
theorem z2w {F:Fence} {n:Nat} {P:Program} {f:FuncId} {tmps:Array Value} {assign body:Code} {R:Ending->World->Prop} (L:Nat) (h:RoundIn F n P l f tmps assign body w R):RoundIn (F.inRound L) n P l f tmps assign body w R:=h
structure Book (d:Nat) (r:Loop) (W:World):Prop where
 df:W.heap[d]?=some (.deferred (some []))
 lp:W.heap[d+1]?=some (.loop r)
theorem Book.keeps {r:Loop} (h:Book d r W) (k:KeepsFrom d W W'):Book d r W':=⟨k.same _ _ (Nat.le_refl _) h.df rfl,k.same _ _ (by omega) h.lp rfl⟩
theorem Book.turn {r:Loop} (h:Book d r W) (r':Loop):Book d r' (W.putObj (d+1) (.loop r')) :=
 ⟨(World.putObj_heap_other (by omega)).trans h.df,World.putObj_heap_same (lt_of_block h.lp)⟩
theorem Book.grown {r:Loop} {row:Option Nat} (h:Book d r W) (hB:d+2<=B) (hg:W.grownBy W' row) (hr:∀ r,row=some r->B<=r):Book d r W':=by
 have hn:∀ k,k<B->some k≠row:=fun k hk e=>by have:=hr k e.symm;omega
 exact⟨(hg.block d (lt_of_block h.df) (hn d (by omega))).trans h.df,(hg.block (d+1) (lt_of_block h.lp) (hn _ (by omega))).trans h.lp⟩
def RoundEnd {α:Type} (d n₀:Nat) (Mine:World->Nat->Prop) (I Ix:List α->World->Prop) (xs:List α) (W:World):Exit->Act->World->Prop
 | .normal,_,W'=>KeepsFrom d W W'/\KpM n₀ Mine W W'/\I xs W'
 | .ret,_,W'=>KeepsFrom d W W'/\Ix xs W'
 | _,_,_=>False
section
variable {α:Type} {P:Program} {g:Operand} {ps:Array Tmp} {assign body:Code} {Q:Exit->Act->World->Prop} {a:Act} {w:World} {n:Nat}
theorem range_own (h1:1<=n) {gf:Nat} {lb:Array Value} (hg:a.eval g=.func (.func gf) #[] lb) (eg:∀ args w,(callFunc gf args).run P w=.ok (.enter gf args) w)
 {encs:α->Array Value} {n₀:Nat} {S Sp:List α->Prop} {N:Nat} {w0:World} (Mine:World->Nat->Prop) (hMine:MineOk n₀ Mine) (hseq:SeqOwnM Mine P gf lb encs n₀ S Sp N w0) (hn0:n₀<=w.heap.size) (hml:∀ i,Mine w i->i<w.heap.size) (hb0:Below w0.heap.size w0 w) (hps:∀ x,(encs x).size=ps.size)
 (I Ix:List α->World->Prop) (hI:OwnFrom w.heap.size I) (hIx:OwnFrom w.heap.size Ix) (h0:I [] w) (Ax:α->Act->World->Prop) (hAx:∀ x a',OwnFrom w.heap.size (fun (_:Unit) W=>Ax x a' W))
 (hassign:∀ (l:Nat) (pre:List α) (x:α) (W:World) (K:Act->World->Prop),I pre W->(∀ a' W',KeepsFrom w.heap.size W W'->KpM n₀ Mine W W'->I pre W'->Ax x a' W'->K a' W') ->
  assign.wpIn (Fence.wide.inRound l) (n - 1 - 1) P (Exit.then K (fun _ _ _=>False)) { tmps:=(ps.zip (encs x)).foldl (fun t (p,v)=>t.setIfInBounds p v) a.tmps,defers:=[] } W)
 (hbody:∀ (l:Nat) (pre:List α) (x:α) (a':Act) (W:World),w.heap.size<=l->(∃ r,W.heap[l]?=some (.loop r))->I pre W->Ax x a' W->pre.length<N->body.wpIn (Fence.wide.inRound l) (n - 1 - 1) P (RoundEnd w.heap.size n₀ Mine I Ix (pre++[x]) W) a' W)
 (hdone:∀ (D:Nat) (xs:List α) (W:World),w.heap.size<=D->S xs->I xs W->W.heap[D]?=some (.deferred (some []))->Q .normal { a with defers:={ target:=.collected D,args:=#[] } :: a.defers } W)
 (hstop:∀ (D:Nat) (pre:List α) (W:World),w.heap.size<=D->Sp pre->Ix pre W->W.heap[D]?=some (.deferred (some []))->Code.ret.wpIn Fence.wide n P Q { a with defers:={ target:=.collected D,args:=#[] } :: a.defers } W) :
 (Code.rangeFunc g ps assign body).wpIn Fence.wide n P Q a w:=by
 refine wpIn_rangeFunc fun fn hfn=>?_
 let rec0:Loop:={ state:=.ready,pending:=none,fn:=fn,tmps:=a.tmps,params:=ps,assign:=assign,body:=body,defers:=w.heap.size }
 let W1:World:=(w.alloc (.deferred (some []))).alloc (.loop rec0)
 have hbook:Book w.heap.size rec0 W1:=by
  refine⟨(Below.heap_alloc _ _ _ (by simp)).trans (World.alloc_heap_new w _),?_⟩
  have:=World.alloc_heap_new (w.alloc (.deferred (some []))) (.loop rec0)
  rwa [World.size_alloc] at this
 have hs1:W1.heap.size=w.heap.size+2:=by simp[W1]
 have hw1:Below w.heap.size w W1:=((Below.refl _ w).alloc (Nat.le_refl _) _).alloc (by simp) _
 refine⟨w.heap.size+1,[{ target:=.collected w.heap.size,args:=#[] }],W1,{ target:=.fn (.func gf) lb,args:=#[.func (.yield (w.heap.size+1)) #[] #[]] },W1,gf,#[.func (.yield (w.heap.size+1)) #[] #[]]++lb,W1,
  run_enterLoop_outer _ _ _ _ _,by simp only[resolve,hg];simp[go_sem],fun f' _=>trivial,by simp[invoke,go_sem,eg],fun _=>h1,?_⟩
 have hbW:Below w0.heap.size w0 W1:=hb0.trans ((((Below.refl _ w).alloc (Nat.le_refl _) _).alloc (by simp) _).mono hb0.size)
 have up:∀ {row:Option Nat} {A:World},(∀ r,row=some r->W1.heap.size<=r/\∃ o:Obj,A.heap[r]?=some o/\o.isCells=false)->∀ r,row=some r->w.heap.size<=r/\∃ o:Obj,A.heap[r]?=some o/\o.isCells=false:=fun h r e=>⟨by have:=(h r e).1;omega,(h r e).2⟩
 refine callsIn_wide.2 ((hseq (w.heap.size+1) (fun pre W=>I pre W/\Book w.heap.size rec0 W) (fun pre W=>Ix pre W/\Book w.heap.size { rec0 with state:=.done,pending:=some .ret } W) W1 hbW (fun i hm=>by have:=hml i (hMine.grow hn0 (z0w hw1) (fun r e=>by cases e) hm);omega)
  (fun s A B row hs hg hr=>⟨hI s A B row hs.1 hg (up hr),hs.2.grown (by omega) hg (fun r e=>(hr r e).1)⟩)
  (fun s A B row hs hg hr=>⟨hIx s A B row hs.1 hg (up hr),hs.2.grown (by omega) hg (fun r e=>(hr r e).1)⟩) ?_ ⟨hI.alloc _ (hI.alloc _ h0),hbook⟩).mono ?_)
 ·
  -- a round
  rintro pre x W m ⟨hi,hk⟩ hlen
  refine⟨fn,_,assign,body,run_yield hk.lp (hps x),?_⟩
  have hR:RoundIn Fence.wide (n - 1 - 1) P (w.heap.size+1) fn ((ps.zip (encs x)).foldl (fun t (p,v)=>t.setIfInBounds p v) a.tmps) assign body W (fun e W'=>(e=.returned (.bool true)/\(I (pre++[x]) W'/\Book w.heap.size rec0 W')/\KpM n₀ Mine W W'/\KeepsFrom W1.heap.size W W')\/(e=.returned (.bool false)/\(Ix (pre++[x]) W'/\Book w.heap.size { rec0 with state:=.done,pending:=some .ret } W')/\KeepsFrom W1.heap.size W W')):=by
   refine roundIn_of_wpIn hfn (hassign _ pre x W _ hi fun a' Wa hka hpa hia hax=>?_)
   have hka2:=hk.keeps hka
   refine⟨_,run_beginRound hka2.lp rfl,?_⟩
   have hput:∀ {A:World} {r:Loop} (r':Loop),Book w.heap.size r A->KpM n₀ Mine A (A.putObj (w.heap.size+1) (.loop r')):=fun r' hA=>KpM.put hMine _ _ _ _ (by omega) hA.lp rfl
   have hob:∀ {J:List α->World->Prop} {s:List α} {A:World} {r:Loop} (r':Loop),OwnFrom w.heap.size J->J s A->Book w.heap.size r A->J s (A.putObj (w.heap.size+1) (.loop r')):=fun r' hJ hs hA=>hJ.putObj _ hs (by omega) hA.lp rfl
   have hkq:∀ {A C:World},KeepsFrom w.heap.size A C->KeepsFrom W1.heap.size A C:=fun h=>z0o h (by omega)
   have hbusy:=hka2.turn { rec0 with state:=.busy }
   refine wpIn_mono (hbody _ pre x a' _ (by omega) ⟨_,hbusy.lp⟩ (hob _ hI hia hka2) ((hAx x a').putObj (s:=()) _ hax (by omega) hka2.lp rfl) hlen) ?_
   intro e a3 W3 hp
   cases e with
   | normal =>
    obtain⟨hkf,hkp,hi3⟩:=hp
    have hb3:=hbusy.keeps hkf
    exact⟨_,_,run_endRound none hb3.lp,.inl ⟨rfl,⟨hob _ hI hi3 hb3,hb3.turn rec0⟩,(hpa.trans (hput _ hka2)).trans (hkp.trans (hput _ hb3)),(hkq hka).trans ((z1f _ _ (by omega)).trans ((hkq hkf).trans (z1f _ _ (by omega))))⟩⟩
   | ret =>
    obtain⟨hkf,hi3⟩:=hp
    have hb3:=hbusy.keeps hkf
    exact⟨_,_,run_endRound (some .ret) hb3.lp,.inr ⟨rfl,⟨hob _ hIx hi3 hb3,hb3.turn _⟩,(hkq hka).trans ((z1f _ _ (by omega)).trans ((hkq hkf).trans (z1f _ _ (by omega))))⟩⟩
   | exit id=>exact hp.elim
   | goto t=>exact hp.elim
   | panic ch=>exact hp.elim
   | outgrown=>exact hp.elim
  exact⟨hR.1,fun c cs _=>hR.2 c cs (fun d h=>by cases h)⟩
 ·
  -- behind the iterator
  rintro e W2 ⟨⟨v,rfl⟩,(⟨xs,hS,hi,hk⟩|⟨pre,hSp,hi,hk⟩)⟩
  ·have ht:=hk.turn { rec0 with state:=.exhausted }
   exact⟨none,_,run_endLoop hk.lp (by simp[rec0]),hdone _ xs _ (Nat.le_refl _) hS (hI.putObj _ hi (by omega) hk.lp rfl) ht.df⟩
  ·have ht:=hk.turn { rec0 with state:=.exhausted,pending:=some .ret }
   exact⟨some .ret,_,run_endLoop hk.lp (by simp),hstop _ pre _ (Nat.le_refl _) hSp (hIx.putObj _ hi (by omega) hk.lp rfl) ht.df⟩
end
end Go.Burg
namespace Go.Proofs.YtgdmfledhhoedaaGreatDoor.F
set_option maxRecDepth 8000
open Go.ChangeShapes Go.WideShapes Go.ChangeAt Go.RowKit Go.Burg
variable {r x:Nat}
set_option maxHeartbeats 4000000 in
theorem fTurn_at {i:Nat} {F:Fw} {y s g:Int} (w:World) (h:FwAt 244 w x F) (hr:1<=F.room) (h16:F.n<=16) (hi:IdxAt F F.n y i) (hlt:i<F.n) (hy:F.b i=y) :
 Calls Tryz.prog 188 #[.pointer (some ⟨x,0,none⟩),.int .u8 y,.agg #[.int .i64 s,.int .u32 g]] w fun e w'=>e=.returned (.int .i64 0)/\FwAt 244 w' x (F.turn i s g)/\Mod (·=x) w w':=by
 have hF:=h.same (w':=w.alloc (.cells #[.int .i64 s,.int .u32 g] 36 (0,0))) (Below.heap_alloc _ _ _ h.lt)
 have hN:=z0a w (.cells #[.int .i64 s,.int .u32 g] 36 (0,0))
 have hx:w.heap.size≠x:=by have:=h.lt;omega
 have hB:Mod (·=x) w (w.alloc (.cells #[.int .i64 s,.int .u32 g] 36 (0,0))):=(Mod.refl _ _).alloc _
 have hX:=lt_of_block hN
 have HT:=hid (z1i _ hF hr)
 have HA:=hid (fat_at (w.alloc (.cells #[.int .i64 s,.int .u32 g] 36 (0,0))) hF h16 hi true (by simp[hlt,hy]))
 have hi16:i<16:=by omega
 have hd2:decide (16<=i)=false:=by simp;omega
 generalize hW:w.alloc (.cells #[.int .i64 s,.int .u32 g] 36 (0,0))=W at *
 generalize hu:w.heap.size=u at *
 have HW:=hid hW
 have HU:=hid hu
 have HF:=hid hF
 have HNB:=hid hN
 have HB:=hid hB
 have HX:=hid hx
 clear h hW hu hF hN hB hr h16 hi hlt hy hx
 go_enter Tryz.func188,Tryz.ntmps188
 go_wp2_with fail
 rw[HW.out,HU.out]
 go_wp2_with (first|(go_at_call 190;refine HT.out.mono ?_;rintro e w2 ⟨rfl,rfl⟩)|(go_at_call 191;refine HA.out.mono ?_;rintro e wa ⟨rfl,hb⟩))
 have HF1:=hid (HF.out.same (hb.block x HF.out.lt))
 have HN1:=hid ((hb.block u hX).trans HNB.out)
 have HB1:=hid (HB.out.trans (Mod.z0j hb) (fun _ _ h=>h))
 clear hb HF HNB HB HT HA
 refine z0f 8 (Turn 7 (fun w1=>FwAt 244 w1 x F/\Mod (·=x) wa w1) (fun w1=>FwAt 244 w1 x (F.turn i s g)/\Mod (·=x) wa w1)) (by kernel_rfl) (by kernel_rfl) (by kernel_rfl) (Turn.start ⟨HF1.out,(Mod.refl _ _).drew⟩) ?_
 dsimp only[List.take]
 iterate 7
  refine Seq.calm (a':=?_) (by decide) ?_ ?_ ?_
  rotate_left
  ·intro w1 hw1
   have hM:=hw1.elim (fun h=>h.2) (fun h=>h.2)
   have hu:=(hM.block u (lt_of_block HN1.out) HX.out).trans HN1.out
   have u0:=cell_of hu 0
   have u1:=cell_of hu 1
   clear hM hu hw1
   go_wp2_with (fail)
   refine⟨?_,id,id⟩;exact rfl
  ·kernel_rfl
 refine Seq.turn (a':=?_) ?_ ?_ ?_
 rotate_left
 ·intro w1 hw1
  have HF2:=hid hw1.1
  have HM2:=hid hw1.2
  have hR:=hw1.1.ref hi16
  have r0:=hR.1
  have r1:=hR.2
  have rf:=hw1.1.free
  clear hw1 hR
  go_wp2_with fail
  refine⟨?_,?_,(HM2.out.setCell (p:=⟨x,16+i * 2,none⟩) (.inl rfl) _).setCell (p:=⟨x,16+i * 2+1,none⟩) (.inl rfl) _⟩
  exact rfl
  have:=set_list (i:=16+i * 2+1) (v:=.int .u32 g) (set_list (i:=16+i * 2) (v:=.int .i64 s) HF2.out)
  rwa [turn_row F s g hi16] at this
 ·kernel_rfl
 iterate 0
  refine Seq.calm (a':=?_) (by decide) ?_ ?_ ?_
  rotate_left
  ·intro w1 hw1
   have hM:=hw1.elim (fun h=>h.2) (fun h=>h.2)
   have hu:=(hM.block u (lt_of_block HN1.out) HX.out).trans HN1.out
   have u0:=cell_of hu 0
   have u1:=cell_of hu 1
   clear hM hu hw1
   go_wp2_with (fail)
   refine⟨?_,id,id⟩;exact rfl
  ·kernel_rfl
 refine SeqI.nil ?_
 intro D w1 hD hI
 replace hI:=hI.done (hD 7 (by omega))
 clear hD
 dsimp only[List.drop]
 go_wp2
 go_ret
 exact⟨rfl,hI.1,HB1.out.trans hI.2 (fun _ _ h=>h)⟩
variable {L:List Kd}
theorem FewL.facts {w:World} (h:FewL 244 w x L r):∃ F,FwAt 244 w x F/\F.list=L/\F.room=r/\1<=F.room/\F.room<=16/\F.n<=F.room:=by
 obtain⟨F,hF,rfl,rfl⟩:=h.f
 have hl:=h.le
 rw[F.z2e] at hl
 exact⟨F,hF,rfl,rfl,by rcases h.room with e|e<;>omega,by rcases h.room with e|e<;>omega,hl⟩
theorem fPut_L (k:Kd) (w:World) (h:FewL 244 w x L r) (hn:z0p L k.b=none) (hl:L.length<r) :
 Calls Tryz.prog 186 #[.pointer (some ⟨x,0,none⟩),.int .u8 k.b,.agg #[.int .i64 k.s,.int .u32 k.g]] w fun e w'=>e=.returned (.int .i64 0)/\FewL 244 w' x (insK L k) r/\Mod (·=x) w w':=by
 obtain⟨F,hF,rfl,hr,h1,h2,h3⟩:=FewL.facts h
 have hI:=idxAt_list F k.b
 rw[F.z2e] at hl
 refine (fPut_at w hF (by omega) h2 hI ?_).mono ?_
 ·rintro ⟨hx,hy⟩
  rw[findK_yes h.rise (F.z2x hx) hy] at hn
  cases hn
 ·rintro e w' ⟨rfl,hF',hM⟩
  refine⟨rfl,⟨⟨_,hF',?_,hr⟩,insK_rise h.rise hn,h.room,by rw[z2y,F.z2e];omega⟩,hM⟩
  rw[insK_eq]
  exact (Fw.list_ins F k.b k.s k.g hI.1).symm
theorem fTurn_L (y s g:Int) (k:Kd) (w:World) (h:FewL 244 w x L r) (hn:z0p L y=some k) :
 Calls Tryz.prog 188 #[.pointer (some ⟨x,0,none⟩),.int .u8 y,.agg #[.int .i64 s,.int .u32 g]] w fun e w'=>e=.returned (.int .i64 0)/\FewL 244 w' x (z1t L y s g) r/\Mod (·=x) w w':=by
 obtain⟨F,hF,rfl,hr,h1,h2,h3⟩:=FewL.facts h
 have hI:=idxAt_list F y
 rcases findK_iff h.rise y with ⟨k',e1,e2,e3⟩|⟨_,e3⟩
 ·have hi:idx F.list y<F.n:=by have:=(List.getElem?_eq_some_iff.1 e1).1;rwa [F.z2e] at this
  have hk:=F.z2x hi
  rw[hk] at e1
  cases e1
  refine (fTurn_at w hF h1 (by omega) hI hi e2).mono ?_
  rintro e w' ⟨rfl,hF',hM⟩
  refine⟨rfl,⟨⟨_,hF',?_,hr⟩,turnK_rise h.rise y s g,h.room,by have:=h.le;simpa[z1t] using this⟩,hM⟩
  rw[turnK_eq h.rise hk e2,<- Fw.list_turn F s g]
  congr 2
 ·rw[e3] at hn;cases hn
end Go.Proofs.YtgdmfledhhoedaaGreatDoor.F
namespace Go.Burg
open Go Go.RowKit
theorem addr_add0 (x n j:Nat):(⟨x,n,none⟩:Addr).add j=⟨x,n+j,none⟩:=by unfold Addr.add;split<;>simp_all
section
variable {P:Program} {ops:Array Oper} {o:Oper} {a:Act} {rest:List Oper} {Q:Exit->Act->World->Prop} {w:World} {F:Fence} {n:Nat}
theorem run_loadAt_cells (g k:Nat) (ty:TypeId) (cs:List Value) (d:TypeDesc) (h:∀ j v,cs[j]?=some v->w.cell? ⟨g,k+j,none⟩=some v)
 (hu:P.underlying ty=some d) (hd:(match d with | .struct _ | .array _ _=>true|_=>false)=true) (hi:(P.info? ty).map (·.size)=some cs.length) :
 (Instr.loadAt ty (.pointer (some ⟨g,k,none⟩))).run P w=.ok (.agg cs.toArray) w:=by
 have hl:(loadCells ⟨g,k,none⟩ cs.length).run P w=.ok cs.toArray w :=
  run_loadCells_list (P:=P) w ⟨g,k,none⟩ cs (fun j v hv=>by rw[addr_add0];exact h j v hv)
 cases hq:P.info? ty with
 | none=>simp[hq] at hi
 | some i =>
  have hs:i.size=cs.length:=by simpa[hq] using hi
  have hagg:(isAgg ty).run P w=.ok true w:=by
   unfold isAgg
   rw[Sem.run_bind,run_underlying hu w]
   cases d<;>simp_all
  simp[Instr.loadAt,Instr.sureAddr,loadVar,Sem.run_bind,hagg,sizeOf,typeInfo,hq,hs,hl]
theorem run_storeAt_cells (g k:Nat) (ty t:TypeId) (cs:List Value) (cur:Array Value) (hg:w.heap[g]?=some (.cells cur t (0,0)))
 (hi:(P.info? ty).map (·.size)=some cs.length) (hfit:k+cs.length<=cur.size) (h1:∀ v∈cs,v.oneCell'=true) :
 (Instr.storeAt ty (.pointer (some ⟨g,k,none⟩)) (.agg cs.toArray)).run P w=.ok () (w.setRow g (cur.toList.take k++cs++cur.toList.drop (k+cs.length)).toArray):=by
 have hst:=run_storeCells_at P g k t cs 0 cur w hg (by simpa using hfit) h1
 cases hq:P.info? ty with
 | none=>simp[hq] at hi
 | some i =>
  have hs:i.size=cs.length:=by simpa[hq] using hi
  simp[Instr.storeAt,Instr.sureAddr,storeVar,Sem.run_bind,sizeOf,typeInfo,hq,hs,Value.cells,hst]
theorem run_storeAt_new (ty t:TypeId) (cs:List Value) (cur:Array Value) (hi:(P.info? ty).map (·.size)=some cs.length) (hs:cur.size=cs.length) (h1:∀ v∈cs,v.oneCell'=true) :
 (Instr.storeAt ty (.pointer (some ⟨w.heap.size,0,none⟩)) (.agg cs.toArray)).run P (w.alloc (.cells cur t (0,0)))=.ok () (w.alloc (.cells cs.toArray t (0,0))):=by
 rw[run_storeAt_cells w.heap.size 0 ty t cs cur (z0a w _) hi (by omega) h1]
 congr 1
 have e:(cur.toList.take 0++cs++cur.toList.drop (0+cs.length))=cs:=by simp[<- hs]
 rw[e]
 unfold World.setRow World.alloc
 congr 1
 apply Array.ext_getElem?
 intro i
 simp only[Array.getElem?_modify,Array.getElem?_push]
 by_cases hk:i=w.heap.size
 ·subst hk;simp
 ·simp[hk,Ne.symm hk]
theorem wpList_load_run (hg:o.guard=none) (T:TypeId) (x:Operand) (hop:o.op=.load T x) (p v:Value) (hx:a.eval x=p) (hrun:(Instr.loadAt T p).run P w=.ok v w)
 (hK:wpList P ops Q rest (a.put o.dst v) w):wpList P ops Q (o :: rest) a w:=by
 refine wpList_plain hg fun K' hK'=>?_
 unfold Oper.wp
 simp[execOp,hop,hx,hrun,Result.andThen]
 exact hK' _ _ hK
theorem wpListIn_load_run (hg:o.guard=none) (T:TypeId) (x:Operand) (hop:o.op=.load T x) (p v:Value) (hx:a.eval x=p) (hrun:(Instr.loadAt T p).run P w=.ok v w)
 (hK:wpListIn F n P ops Q rest (a.put o.dst v) w):wpListIn F n P ops Q (o :: rest) a w:=by
 refine wpListIn_plain hg fun K' hK'=>?_
 unfold Oper.wpIn
 refine⟨?_,?_⟩
 ·simp[Oper.about,hop]
 ·rw[Oper.semAt_plain F _ _ (by rw[hop];intro c hc';cases hc')]
  simp[execOp,hop,hx,hrun,Result.andThen]
  exact hK' _ _ hK
theorem wpList_build_run (hg:o.guard=none) (T:TypeId) (parts:Array (Nat × Operand)) (hop:o.op=.build T parts) (ps:Array (Nat × Value)) (v:Value) (hx:(parts.map fun (i,x)=>(i,a.eval x))=ps) (hrun:(Instr.build T ps).run P w=.ok v w)
 (hK:wpList P ops Q rest (a.put o.dst v) w):wpList P ops Q (o :: rest) a w:=by
 refine wpList_plain hg fun K' hK'=>?_
 unfold Oper.wp
 subst hx
 simp only[execOp,hop,Sem.run_bind,hrun,Result.andThen,Sem.run_pure]
 exact hK' _ _ hK
theorem wpListIn_store_run (hg:o.guard=none) (T:TypeId) (x y:Operand) (hop:o.op=.store T x y) (p v:Value) (w':World) (hx:a.eval x=p) (hy:a.eval y=v) (hrun:(Instr.storeAt T p v).run P w=.ok () w')
 (hK:wpListIn F n P ops Q rest (a.put o.dst undef) w'):wpListIn F n P ops Q (o :: rest) a w:=by
 refine wpListIn_plain hg fun K' hK'=>?_
 unfold Oper.wpIn
 refine⟨?_,?_⟩
 ·simp[Oper.about,hop]
 ·rw[Oper.semAt_plain F _ _ (by rw[hop];intro c hc';cases hc')]
  simp[execOp,hop,hx,hy,hrun,Result.andThen]
  exact hK' _ _ hK
end
def Row49 (F:Fw):List Value:=fwB F++fwR F++[.int .i64 F.n]
theorem row49_len (F:Fw):(Row49 F).length=49:=rfl
theorem row49_get (F:Fw) {k:Nat} (hk:k<49):(Row49 F)[k]?=some (z2j F k):=by
 rw[<- fwRow_get F (by omega:k<50)]
 show (fwB F++fwR F++[.int .i64 F.n])[k]?=(fwB F++fwR F++([.int .i64 F.n]++[.int .i64 F.room]))[k]?
 rw[<- List.append_assoc]
 exact (List.getElem?_append_left (by have:=row49_len F;unfold Row49 at this;omega)).symm
theorem row49_one (F:Fw):∀ v∈Row49 F,v.oneCell'=true:=by
 intro v hv
 obtain⟨k,hk,rfl⟩:=List.getElem_of_mem hv
 have h:=row49_get F (k:=k) hk
 rw[List.getElem?_eq_getElem hk] at h
 rw[Option.some.inj h]
 unfold z2j
 (repeat' split)<;>rfl
structure NowAt (T:TypeId) (w:World) (c:Nat) (F:Fw):Prop where
 h:w.heap[c]?=some (.cells (Row49 F).toArray T (0,0))
theorem NowAt.cell {T:TypeId} {w:World} {c:Nat} {F:Fw} (h:NowAt T w c F) {k:Nat} (hk:k<49):w.cell? ⟨c,k,none⟩=some (z2j F k):=by
 rw[cell_of h.h,List.getElem?_toArray,row49_get F hk]
variable {F:Fw} {c:Nat} {T:TypeId} {w:World}
theorem NowAt.byte (h:NowAt T w c F) {i:Nat} (hi:i<16):w.cell? ⟨c,i,none⟩=some (.int .u8 (F.b i)):=by
 rw[h.cell (by omega)];simp[z2j,hi]
theorem NowAt.ref (h:NowAt T w c F) {i:Nat} (hi:i<16):w.cell? ⟨c,16+i * 2,none⟩=some (.int .i64 (F.s i))/\w.cell? ⟨c,16+i * 2+1,none⟩=some (.int .u32 (F.g i)):=by
 have e1:¬ (16+i * 2<16):=by omega
 have e2:16+i * 2<48:=by omega
 have e3:(16+i * 2) % 2=0:=by omega
 have e4:(16+i * 2 - 16) / 2=i:=by omega
 have f1:¬ (16+i * 2+1<16):=by omega
 have f2:16+i * 2+1<48:=by omega
 have f3:¬ ((16+i * 2+1) % 2=0):=by omega
 have f4:(16+i * 2+1 - 16) / 2=i:=by omega
 refine⟨?_,?_⟩
 ·rw[h.cell (by omega)];simp only[z2j,if_neg e1,if_pos e2,if_pos e3,e4]
 ·rw[h.cell (by omega)];simp only[z2j,if_neg f1,if_pos f2,if_neg f3,f4]
theorem NowAt.num (h:NowAt T w c F):w.cell? ⟨c,48,none⟩=some (.int .i64 F.n):=by
 rw[h.cell (by omega)];simp[z2j]
theorem NowAt.lt (h:NowAt T w c F):c<w.heap.size:=lt_of_block h.h
theorem blk_below' {w1:World} {B b:Nat} {o:Obj} (h:w.heap[b]?=some o) (hb:Below B w w1) (hB:b<B):w1.heap[b]?=some o:=(hb.block b hB).trans h
end Go.Burg
namespace Go.Proofs.YtgdmfledhhoedaaGreatDoor.F
set_option maxRecDepth 8000
open Go.ChangeShapes Go.WideShapes Go.ChangeAt Go.RowKit Go.Burg Go.Shelf
attribute [local go_sem] Oper.semAt_some
def encK (k:Kd):Array Value:=#[.int .u8 k.b,.agg #[.int .i64 k.s,.int .u32 k.g]]
theorem all_at {x:Nat} (w:World) :
 Calls Tryz.prog 182 #[.pointer (some ⟨x,0,none⟩)] w fun e w'=>e=.returned (.func (.func 189) #[] #[.pointer (some ⟨w.heap.size,0,none⟩)])/\w'=w.alloc (.cells #[.pointer (some ⟨x,0,none⟩)] 229 (0,0)):=by
 have hmf:=makeF Tryz.prog
 go_enter Tryz.func182,Tryz.ntmps182
 go_wp2_with fail
 go_ret
 exact⟨rfl,rfl⟩
set_option maxRecDepth 100000 in
set_option maxHeartbeats 4000000 in
theorem all_own (B x r:Nat) (L:List Kd) (w0:World) (hB:w0.heap[B]?=some (.cells #[.pointer (some ⟨x,0,none⟩)] 229 (0,0))) (hS:FewL 244 w0 x L r) :
 SeqOwn Tryz.prog 189 #[.pointer (some ⟨B,0,none⟩)] encK w0.heap.size (fun xs=>xs=L) (fun pre=>pre <+: L) L.length w0:=by
 intro Mine hMine LL J Jx W hW hml hJ hJx hY h0
 have hlB:=lt_of_block hB
 have hsz:=hW.size
 obtain⟨F,hF,rfl,hr,h1,h2,h3⟩:=FewL.facts hS
 have hF1:=hF.same (hW.block x hF.lt)
 have b0:=cell_of ((hW.block B hlB).trans hB) 0
 have HTH:=hid (z1i W hF1 h1)
 have HY:=hid hY
 have HW:=hid hW
 clear hY hW
 refine (callsIn_wide (n:=8)).1 ?_
 refine callsIn_of_wp Tryz.func189 rfl trivial ?_ rfl
 simp only[Tryz.ntmps189,List.size_toArray,List.length_cons,List.length_nil,Nat.reduceAdd,Nat.reduceSub,Array.replicate_succ,Array.replicate_zero,List.push_toArray,List.append_toArray,List.nil_append,List.cons_append]
 gi_wp2_with fail
 refine⟨trivial,?_⟩
 refine ((callsIn_wide (n:=7)).2 HTH.out).mono ?_
 rintro e w1 ⟨rfl,rfl⟩
 have hLD:(Instr.loadAt 242 (.pointer (some ⟨x,0,none⟩))).run Tryz.prog W=.ok (.agg (Row49 F).toArray) W:=run_loadAt_cells x 0 242 (Row49 F) _ (fun j v hj=>by
  have hj2:j<49:=(List.getElem?_eq_some_iff.1 hj).1
  rw[Nat.zero_add,cell_of hF1,List.getElem?_toArray,fwRow_get F (by omega),<- row49_get F hj2]
  exact hj) Tryz.underlying242 rfl (by kernel_rfl)
 have hST:∀ cur:Array Value,cur.size=49->(Instr.storeAt 242 (.pointer (some ⟨W.heap.size,0,none⟩)) (.agg (Row49 F).toArray)).run Tryz.prog (W.alloc (.cells cur 242 (0,0)))=.ok () (W.alloc (.cells (Row49 F).toArray 242 (0,0))):=fun cur hc =>
  run_storeAt_new 242 242 (Row49 F) cur (by kernel_rfl) hc (row49_one F)
 have hNow:NowAt 242 (W.alloc (.cells (Row49 F).toArray 242 (0,0))) W.heap.size F:=⟨z0a _ _⟩
 generalize (Row49 F).toArray=rv at hLD hST hNow
 have HLD:=hid hLD
 have HST:=hid hST
 have c48:=hNow.num
 have HNow:=hid hNow
 clear hLD hST hNow
 gi_wp2_with (first|(refine wpListIn_load_run rfl 242 _ rfl _ _ rfl HLD.out ?_)|(refine wpListIn_store_run rfl 242 _ _ rfl _ _ _ rfl rfl (HST.out _ rfl) ?_))
 have hJ1:=own_below hJ h0 ((Below.refl _ _).alloc (Nat.le_refl _) (.cells rv 242 (0,0)))
 have hc0:w0.heap.size<=W.heap.size:=hsz
 have hnm:¬ Mine (W.alloc (.cells rv 242 (0,0))) W.heap.size:=hMine.priv hsz (fun h=>absurd (hml _ h) (Nat.lt_irrefl _)) ((Below.refl _ _).alloc (Nat.le_refl _) _)
 clear hml
 have hwn:W.heap.size<=(W.alloc (.cells rv 242 (0,0))).heap.size:=by simp
 generalize W.alloc (.cells rv 242 (0,0))=Wn at *
 generalize W.heap.size=c at *
 clear HLD HST b0 h0 HTH hF1 c48
 gi_loopw [14] (fun iv wr=>∃ k:Nat,k<=F.n/\iv=.int .i64 k/\J (F.list.take k) wr/\NowAt 242 wr c F/\¬ Mine wr c) (fun iv _=>F.n - (intOf iv).toNat)
 case atStart=>exact⟨0,Nat.zero_le _,rfl,hJ1,HNow.out,hnm⟩
 case round =>
  clear hJ1 HNow hnm hwn
  obtain⟨k,hk,rfl,hJs,hN,hnm⟩:=hrel
  by_cases hlt:k<F.n
  ·have hk16:k<16:=by omega
   have hd2:decide (16<=k)=false:=by simp;omega
   have HN:=hid hN
   have HJS:=hid hJs
   have HK:=hid hk16
   have HNM:=hid hnm
   clear hN hJs hnm
   gi_wp2_with fail
   refine rgn_seq (fok_wide _) (by kernel_rfl) 9 (fun w1=>Below (wr).heap.size (wr) w1) (by kernel_rfl) (by kernel_rfl) (by kernel_rfl) ⟨rfl,rfl,rfl,Nat.le_refl _,fun _ _=>rfl⟩ ?_
   dsimp only[List.take]
   iterate 9
    refine Seq.cons (a':=?_) ?_ ?_ ?_
    rotate_left
    ·intro w1 hw1
     have hn:=HN.out.h;have hN1:NowAt 242 w1 c F:=⟨blk_below' hn hw1 (lt_of_block hn)⟩;have q0:=hN1.byte HK.out;have q1:=(hN1.ref HK.out).1;have q2:=(hN1.ref HK.out).2;clear hn hN1
     go_wp2_with (fail)
     refine⟨?_,by first|assumption|(simpa using z0d hw1 hb hw1.size)⟩
     exact rfl
    ·kernel_rfl
   refine SeqI.nil ?_
   intro _ w1 _ hw1
   dsimp only[List.drop]
   have hJ1:=own_below hJ HJS.out hw1
   have hN1:NowAt 242 w1 c F:=⟨blk_below' HN.out.h hw1 HN.out.lt⟩
   have HNM1:=hid (hMine.priv (by have:=HN.out.lt;omega) HNM.out hw1)
   have HN1:=hid hN1
   have HJ1:=hid hJ1
   clear hJ1 hN1 HN HJS hw1 HNM
   obtain⟨fn,tmps,assign,body,hy,hR⟩:=HY.out _ (F.kd k) _ 7 HJ1.out (by rw[List.length_take,F.z2e];omega)
   unfold encK Fw.kd at hy
   dsimp only at hy
   have HRR:=hid hR
   clear hR
   gi_wp2_with fail
   refine HRR.out.mono ?_
   have hU:F.list.take k++[F.kd k]=F.list.take (k+1):=by rw[List.take_add_one,F.z2x hlt];rfl
   rintro e W3 (⟨rfl,hJ3,hk3,_⟩|⟨rfl,hJx3,_⟩)
   ·have HJ3:=hid hJ3
    have HN3:Hid (NowAt 242 W3 c F):=hid ⟨hk3.cells c _ hc0 HNM1.out HN1.out.h rfl⟩
    have HNM3:=hid (hk3.priv HNM1.out HN1.out.lt)
    clear hJ3 hk3 HRR HN1 HJ1
    gi_wp2_with fail
    go_roundw
    case rel=>exact⟨k+1,by omega,by go_num,by rw[<- hU];exact HJ3.out,HN3.out,HNM3.out⟩
    case measure=>simp[intOf];omega
   ·have HJ3:=hid hJx3
    clear hJx3 HRR HN1 HJ1
    gi_wp2_with fail
    refine bodyPost_ret (results_none rfl _ _ _) rfl ?_
    exact⟨⟨_,rfl⟩,.inr ⟨_,by rw[hU];exact List.take_prefix _ _,HJ3.out⟩⟩
  ·obtain rfl:k=F.n:=by omega
   clear hlt HY
   gi_wp2_with fail
   go_end0
   refine⟨⟨_,rfl⟩,.inl ⟨_,rfl,?_⟩⟩
   rw[<- F.z2e,List.take_length] at hJs
   exact hJs
end Go.Proofs.YtgdmfledhhoedaaGreatDoor.F
namespace Go.Burg
open Go Go.RowKit
def RowIn (E:TypeId) (w:World) (g:Nat) (news:List Value):Prop:=∃ cs,w.heap[g]?=some (.cells cs E (0,0))/\∀ j,j<news.length->cs[j]?=news[j]?
variable {news:List Value} {g:Nat} {E:TypeId} {w w':World}
theorem RowIn.same (h:RowIn E w g news) (e:w'.heap[g]?=w.heap[g]?):RowIn E w' g news:=by
 obtain⟨cs,h1,h2⟩:=h
 exact⟨cs,e.trans h1,h2⟩
theorem RowIn.lt (h:RowIn E w g news):g<w.heap.size:=by
 obtain⟨cs,h1,_⟩:=h
 exact lt_of_block h1
theorem RowIn.keep (h:RowIn E w g news) (k:Below w.heap.size w w'):RowIn E w' g news:=h.same (k.block _ h.lt)
theorem RowIn.cell {E:TypeId} {w:World} {g:Nat} {news:List Value} (h:RowIn E w g news) {j:Nat} {u:Value} (hj:news[j]?=some u):w.cell? ⟨g,j,none⟩=some u:=by
 obtain⟨cs,h1,h2⟩:=h
 rw[cell_of h1,h2 j (List.getElem?_eq_some_iff.1 hj).1,hj]
theorem rowIn_own {base s n:Nat} {v:Value} (h:w.ownsRow base E s v n news) (hp:1<=n) :
 ∃ g cap,v=.slice (some ⟨g,0,none⟩) n cap/\base<=g/\n<=cap/\RowIn E w g news:=by
 obtain⟨hl,h⟩:=h
 rcases h with ⟨_,h⟩|⟨g,cap,cur,hv,hb,hh,h1,_,h3,h4⟩
 ·omega
 ·refine⟨g,cap,hv,hb,h1,⟨cur,hh,fun j hj=>?_⟩⟩
  rw[<- h4,List.getElem?_take_of_lt (by omega),Array.getElem?_toList]
end Go.Burg
namespace Go.Proofs.YtgdmfledhhoedaaGreatDoor.M
set_option maxRecDepth 8000
open Go.ChangeShapes Go.WideShapes Go.ChangeAt Go.RowKit Go.Burg
variable {cp g gr m r x:Nat}
set_option maxRecDepth 20000 in
theorem rclone (news:List Value) (w:World) (h:RowIn 36 w g news) (hl:news.length=m * 2) (hone:∀ u∈news,u.oneCell'=true) (h1:1<=m) (h2:m<=4096):Calls Tryz.prog 90 #[.slice (some ⟨g,0,none⟩) m cp] w fun e w'=>∃ g' cap,e=.returned (.slice (some ⟨g',0,none⟩) m cap)/\w.heap.size<=g'/\m<=cap/\RowIn 36 w' g' news/\Below w.heap.size w w':=by
 obtain⟨i,hi,hz,hs,hby⟩:=info_parts (P:=Tryz.prog) (e:=36) (z:=.agg #[.int .i64 0,.int .u32 0]) (size:=2) (bytes:=16) (by kernel_rfl)
 have HI:=hid hi
 have HZ:=hid hz
 have HS:=hid hs
 have HY:=hid hby
 have hgl:=h.lt
 have hN:=z0a w (.cells #[] 36 (0,0))
 have HO:Hid ((w.alloc (.cells #[] 36 (0,0))).ownsRow w.heap.size 36 2 (.slice (some ⟨w.heap.size,0,none⟩) 0 0) 0 []):=hid ⟨rfl,.inr ⟨w.heap.size,0,#[],rfl,Nat.le_refl _,hN,Nat.le_refl _,Nat.zero_le _,rfl,rfl⟩⟩
 have hnews:∀ j u,news[j]?=some u->(w.alloc (.cells #[] 36 (0,0))).cell? ((⟨g,0,none⟩:Addr).add j)=some u:=by
  intro j u hj
  have key:(⟨g,0,none⟩:Addr).add j=⟨g,j,none⟩:=by unfold Addr.add;split<;>simp_all
  rw[key]
  exact (h.same (w':=w.alloc (.cells #[] 36 (0,0))) (Below.heap_alloc _ _ _ hgl)).cell hj
 have HW:=hid hnews
 have HL:=hid hl
 have HONE:=hid hone
 clear hi hz hs hby hnews hN h hl hone
 have heq:∀ (w:World),(binOp BinOp.eql 39 (.slice (some ⟨g,0,none⟩) m cp) (.slice none 0 0)).run Tryz.prog w=.ok (.bool false) w:=fun _=>rfl
 go_enter Tryz.func90,Tryz.ntmps90
 go_wp2_with (at_builtin;go_loud (refine wpList_append_own _ rfl (.tmp 5) (.tmp 6) 39 rfl w.heap.size 36 i _ 2 16 Tryz.underlying39 HI.out HZ.out HS.out HY.out rfl (by decide) (.slice (some ⟨w.heap.size,0,none⟩) 0 0) 0 [] rfl HO.out ⟨g,0,none⟩ m cp news rfl HL.out HW.out HONE.out (by simp[maxLen];omega) (by omega) (by simp) ?_))
 intro v2 w2 hO2 hgr _
 obtain⟨g',cap,rfl,hb',hcap,hC⟩:=rowIn_own hO2 h1
 go_wp2
 go_ret
 refine⟨g',cap,?_,hb',hcap,hC,?_⟩
 ·first|rfl|simp
 exact⟨hgr.os,hgr.tape,hgr.output,Nat.le_trans (by simp) hgr.size,fun k hk=>(hgr.block k (by simp;omega) (by simp[Value.ownBlock];omega)).trans (Below.heap_alloc _ _ _ hk)⟩
set_option maxRecDepth 20000 in
theorem bclone (news:List Value) (w:World) (h:RowIn 4 w g news) (hl:news.length=m * 1) (hone:∀ u∈news,u.oneCell'=true) (h1:1<=m) (h2:m<=4096):Calls Tryz.prog 210 #[.slice (some ⟨g,0,none⟩) m cp] w fun e w'=>∃ g' cap,e=.returned (.slice (some ⟨g',0,none⟩) m cap)/\w.heap.size<=g'/\m<=cap/\RowIn 4 w' g' news/\Below w.heap.size w w':=by
 obtain⟨i,hi,hz,hs,hby⟩:=info_parts (P:=Tryz.prog) (e:=4) (z:=.bool false) (size:=1) (bytes:=1) (by kernel_rfl)
 have HI:=hid hi
 have HZ:=hid hz
 have HS:=hid hs
 have HY:=hid hby
 have hgl:=h.lt
 have hN:=z0a w (.cells #[] 4 (0,0))
 have HO:Hid ((w.alloc (.cells #[] 4 (0,0))).ownsRow w.heap.size 4 1 (.slice (some ⟨w.heap.size,0,none⟩) 0 0) 0 []):=hid ⟨rfl,.inr ⟨w.heap.size,0,#[],rfl,Nat.le_refl _,hN,Nat.le_refl _,Nat.zero_le _,rfl,rfl⟩⟩
 have hnews:∀ j u,news[j]?=some u->(w.alloc (.cells #[] 4 (0,0))).cell? ((⟨g,0,none⟩:Addr).add j)=some u:=by
  intro j u hj
  have key:(⟨g,0,none⟩:Addr).add j=⟨g,j,none⟩:=by unfold Addr.add;split<;>simp_all
  rw[key]
  exact (h.same (w':=w.alloc (.cells #[] 4 (0,0))) (Below.heap_alloc _ _ _ hgl)).cell hj
 have HW:=hid hnews
 have HL:=hid hl
 have HONE:=hid hone
 clear hi hz hs hby hnews hN h hl hone
 have heq:∀ (w:World),(binOp BinOp.eql 245 (.slice (some ⟨g,0,none⟩) m cp) (.slice none 0 0)).run Tryz.prog w=.ok (.bool false) w:=fun _=>rfl
 go_enter Tryz.func210,Tryz.ntmps210
 go_wp2_with (at_builtin;go_loud (refine wpList_append_own _ rfl (.tmp 5) (.tmp 6) 245 rfl w.heap.size 4 i _ 1 1 Tryz.underlying245 HI.out HZ.out HS.out HY.out rfl (by decide) (.slice (some ⟨w.heap.size,0,none⟩) 0 0) 0 [] rfl HO.out ⟨g,0,none⟩ m cp news rfl HL.out HW.out HONE.out (by simp[maxLen];omega) (by omega) (by simp) ?_))
 intro v2 w2 hO2 hgr _
 obtain⟨g',cap,rfl,hb',hcap,hC⟩:=rowIn_own hO2 h1
 go_wp2
 go_ret
 refine⟨g',cap,?_,hb',hcap,hC,?_⟩
 ·first|rfl|simp
 exact⟨hgr.os,hgr.tape,hgr.output,Nat.le_trans (by simp) hgr.size,fun k hk=>(hgr.block k (by simp;omega) (by simp[Value.ownBlock];omega)).trans (Below.heap_alloc _ _ _ hk)⟩
structure CopyAt (w:World) (x gr r:Nat) (M:Mw):Prop where
 hx:∃ cs,w.heap[x]?=some (.cells cs 251 (0,0))/\(∀ b,b<256->cs[b]?=some (.int .u16 (M.at' b)))/\∃ cap,cs[256]?=some (.slice (some ⟨gr,0,none⟩) r cap)
 hr:∃ cs,w.heap[gr]?=some (.cells cs 36 (0,0))/\∀ p,p<r->cs[p * 2]?=some (.int .i64 (M.s p))/\cs[p * 2+1]?=some (.int .u32 (M.g p))
 r2:r<=256
 at_le:∀ b,b<256->M.at' b<=r
variable {M:Mw} {w w':World}
theorem CopyAt.cells {n₀:Nat} (h:CopyAt w x gr r M) (k:∀ (i:Nat) (o:Obj),n₀<=i->w.heap[i]?=some o->o.isCells=true->w'.heap[i]?=some o) (h1:n₀<=x) (h2:n₀<=gr):CopyAt w' x gr r M :=
 ⟨by obtain⟨c,a,b⟩:=h.hx;exact⟨c,k x _ h1 a rfl,b⟩,by obtain⟨c,a,b⟩:=h.hr;exact⟨c,k gr _ h2 a rfl,b⟩,h.r2,h.at_le⟩
theorem CopyAt.turned (h:CopyAt w x gr r M) (k1:∀ o:Obj,w.heap[x]?=some o->o.isCells=true->w'.heap[x]?=some o) (k2:∀ o:Obj,w.heap[gr]?=some o->o.isCells=true->w'.heap[gr]?=some o):CopyAt w' x gr r M :=
 ⟨by obtain⟨c,a,b⟩:=h.hx;exact⟨c,k1 _ a rfl,b⟩,by obtain⟨c,a,b⟩:=h.hr;exact⟨c,k2 _ a rfl,b⟩,h.r2,h.at_le⟩
theorem CopyAt.lt (h:CopyAt w x gr r M):x<w.heap.size/\gr<w.heap.size:=by
 obtain⟨_,a,_⟩:=h.hx
 obtain⟨_,b,_⟩:=h.hr
 exact⟨lt_of_block a,lt_of_block b⟩
theorem CopyAt.keep (h:CopyAt w x gr r M) (k:Below w.heap.size w w'):CopyAt w' x gr r M :=
 ⟨by obtain⟨c,a,b⟩:=h.hx;exact⟨c,(k.block _ h.lt.1).trans a,b⟩,by obtain⟨c,a,b⟩:=h.hr;exact⟨c,(k.block _ h.lt.2).trans a,b⟩,h.r2,h.at_le⟩
theorem has_c (b:Nat) (hb:b<256) (h:CopyAt w x gr r M):Calls Tryz.prog 206 #[.pointer (some ⟨x,0,none⟩),.int .i64 b] w fun e w'=>e=.returned (.bool (decide (0<M.at' b)))/\w=w':=by
 obtain⟨c,a1,a2,_⟩:=h.hx
 have c1:=(cell_of a1 b).trans (a2 b hb)
 have hd:decide ((256:Int)<=(b:Int))=false:=by simp;omega
 have hd2:decide (256<=b)=false:=by simp;omega
 clear h a1 a2
 go_enter Tryz.func206,Tryz.ntmps206
 go_wp2
 go_ret
 exact⟨by simp,rfl⟩
theorem ref_c (b p:Nat) (hb:b<256) (h:CopyAt w x gr r M) (hp:M.at' b=p+1):Calls Tryz.prog 207 #[.pointer (some ⟨x,0,none⟩),.int .i64 b] w fun e w'=>e=.returned (.pointer (some ⟨gr,p * 2,none⟩))/\Below w.heap.size w w':=by
 obtain⟨c,a1,a2,cap,a3⟩:=h.hx
 have c1:=(cell_of a1 b).trans (a2 b hb)
 have c2:=(cell_of a1 256).trans a3
 rw[hp] at c1
 have hpr:p<r:=by have:=h.at_le b hb;omega
 have hr:=h.r2
 have hd2:decide (256<=b)=false:=by simp;omega
 have hd3:decide (r<=p)=false:=by simp;omega
 clear h hp a1 a2 a3
 go_enter Tryz.func207,Tryz.ntmps207
 go_wp2_with fail
 go_quiet (fail)
 go_wp2
 go_ret
 exact⟨rfl,⟨rfl,rfl,rfl,Nat.le_refl _,fun _ _=>rfl⟩⟩
theorem CopyAt.ref (h:CopyAt w x gr r M) {p:Nat} (hp:p<r):w.cell? ⟨gr,p * 2,none⟩=some (.int .i64 (M.s p))/\w.cell? ⟨gr,p * 2+1,none⟩=some (.int .u32 (M.g p)):=by
 obtain⟨c,a1,a2⟩:=h.hr
 exact⟨(cell_of a1 _).trans (a2 p hp).1,(cell_of a1 _).trans (a2 p hp).2⟩
set_option maxRecDepth 20000
def atL (M:Mw):List Value:=(List.range 256).map fun b=>.int .u16 (M.at' b)
theorem build_one (M:Mw) (g1 g2 r c1 c2:Nat) (w:World):(Instr.build 249 #[(0,.agg (atL M).toArray),(1,Value.slice (some ⟨g1,0,none⟩) r c1),(2,Value.slice (some ⟨g2,0,none⟩) r c2)]).run Tryz.prog w=.ok (.agg ((atL M).toArray.toList++[Value.slice (some ⟨g1,0,none⟩) r c1,Value.slice (some ⟨g2,0,none⟩) r c2]).toArray) w:=by kernel_rfl
theorem build_two (M:Mw) (g1 g2 r c1 c2:Nat) (w:World):(Instr.build 251 #[(0,.agg (atL M++[Value.slice (some ⟨g1,0,none⟩) r c1,Value.slice (some ⟨g2,0,none⟩) r c2]).toArray)]).run Tryz.prog w=.ok (.agg (atL M++[Value.slice (some ⟨g1,0,none⟩) r c1,Value.slice (some ⟨g2,0,none⟩) r c2]).toArray) w:=by kernel_rfl
end Go.Proofs.YtgdmfledhhoedaaGreatDoor.M
