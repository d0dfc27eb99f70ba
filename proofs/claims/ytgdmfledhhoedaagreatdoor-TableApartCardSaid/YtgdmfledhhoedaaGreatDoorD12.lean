/- Part 12 of 27. -/
import Derived.Test.YtgdmfledhhoedaaGreatDoorD11
import Derived.Maps.AppendAt
namespace Go.Proofs.YtgdmfledhhoedaaGreatDoor.T
set_option maxRecDepth 8000
open Go.ChangeShapes Go.WideShapes Go.ChangeAt Go.RowKit Go.Burg
open Go.Burg.Lk
def dOf (b:Nat) (w:World):Nat:=match w.cell? ⟨b,3,none⟩ with
 | some (.int _ d)=>d.toNat
 | _=>0
structure SkI (u:Nat) (w:World) (slot gen:Int) (r:Int × Int) (d:Nat) (W:List (Int × Int)) (w1:World):Prop where
 an:w1.heap[u]?=some (.cells #[.int .i64 slot,.int .u32 gen] 36 (0,0))
 sp:∃ v at_,w1.heap[u+1]?=some (.cells #[.int .i64 0,v,.int .i64 at_,.int .i64 (d:Nat)] 107 (0,0))/\w1.ownsRow (u+1+1+1+1) 36 2 v W.length (z1z W)
 nd:∃ a0 a1 a2 a3 a4 a5,w1.heap[u+1+1]?=some (.cells #[a0,a1,a2,a3,a4,a5] 102 (0,0))
 rf:w1.heap[u+1+1+1]?=some (.cells #[.int .i64 r.1,.int .u32 r.2] 36 (0,0))
 b:Below u w w1
structure SkL (u:Nat) (w:World) (x:Nd) (d:Nat) (W:List (Int × Int)) (w1:World):Prop where
 sp:∃ v at_,w1.heap[u+1]?=some (.cells #[.int .i64 0,v,.int .i64 at_,.int .i64 (d:Nat)] 107 (0,0))/\w1.ownsRow (u+1+1+1+1) 36 2 v W.length (z1z W)
 nd:w1.heap[u+1+1]?=some (.cells #[.int .i64 x.kind,.string x.code,.string x.value,.string x.path,.slice x.bytes.a x.bytes.n x.bytes.c,.slice x.kids.a x.kids.n x.kids.c] 102 (0,0))
 b:Below u w w1
variable {a gen slot:Int} {W:List (Int × Int)} {d i k u:Nat} {w w1 w2:World}
theorem SkI.keep {r:Int × Int} (h:SkI u w slot gen r d W w1) (hb:Below w1.heap.size w1 w2):SkI u w slot gen r d W w2:=by
 obtain⟨h1,⟨v,at_,h2,h3⟩,⟨a0,a1,a2,a3,a4,a5,h4⟩,h5,h6⟩:=h
 have e:∀ {k:Nat} {o:Obj},w1.heap[k]?=some o->w2.heap[k]?=some o:=fun h=>(hb.block _ (lt_of_block h)).trans h
 exact⟨e h1,⟨v,at_,e h2,O.z0h h3 (O.z0n (S:=fun _=>False) hb) (fun _ _ h=>h)⟩,⟨_,_,_,_,_,_,e h4⟩,e h5,h6.trans (hb.mono (by have:=lt_of_block h1;omega))⟩
theorem jump_intro {F:(Nat->Value)->Act} {a:Act} {p:Prop} (f:Nat->Value) (h:a=F f) (hp:p):∃ f,a=F f/\p:=⟨f,h,hp⟩
def frD (t u:Nat) (slot gen:Int) (c:ByteArray) (f:Nat->Value):Act:=({ tmps:=#[.pointer (some ⟨t,0,none⟩),.agg #[.int .i64 slot,.int .u32 gen],.string c,f 3,.pointer (some ⟨u,0,none⟩),f 5,.pointer (some ⟨(u+1),0,none⟩),.int .i64 0,.pointer (some ⟨(u+1+1),0,none⟩),f 9,f 10,.pointer (some ⟨(u+1+1+1),0,none⟩),f 12,f 13,f 14,f 15,f 16,f 17,f 18,f 19,f 20,f 21,f 22,f 23,f 24,f 25,f 26,f 27,f 28,f 29,f 30,f 31,f 32,f 33,f 34,f 35,f 36,f 37,f 38,f 39,f 40,f 41,f 42,f 43,f 44,f 45,f 46,f 47,f 48,f 49,f 50,f 51,f 52,f 53,f 54,f 55,f 56,f 57,f 58,f 59,f 60,f 61,f 62,f 63,f 64,f 65,f 66,f 67,f 68,f 69,f 70,f 71,f 72,f 73,f 74,f 75,f 76,f 77,f 78,f 79,f 80,f 81,f 82,f 83,f 84,f 85,f 86,f 87,f 88,f 89,f 90,f 91,f 92,f 93,f 94,f 95,f 96,f 97,f 98,f 99,f 100,f 101,f 102,f 103],defers:=[] }:Act)
def frL (t u:Nat) (slot gen:Int) (c:ByteArray) (rest:ByteArray) (f:Nat->Value):Act:=({ tmps:=#[.pointer (some ⟨t,0,none⟩),.agg #[.int .i64 slot,.int .u32 gen],.string c,f 3,.pointer (some ⟨u,0,none⟩),f 5,.pointer (some ⟨(u+1),0,none⟩),.int .i64 0,.pointer (some ⟨(u+1+1),0,none⟩),.string rest,f 10,.pointer (some ⟨(u+1+1+1),0,none⟩),f 12,f 13,f 14,f 15,f 16,f 17,f 18,f 19,f 20,f 21,f 22,f 23,f 24,f 25,f 26,f 27,f 28,f 29,f 30,f 31,f 32,f 33,f 34,f 35,f 36,f 37,f 38,f 39,f 40,f 41,f 42,f 43,f 44,f 45,f 46,f 47,f 48,f 49,f 50,f 51,f 52,f 53,f 54,f 55,f 56,f 57,f 58,f 59,f 60,f 61,f 62,f 63,f 64,f 65,f 66,f 67,f 68,f 69,f 70,f 71,f 72,f 73,f 74,f 75,f 76,f 77,f 78,f 79,f 80,f 81,f 82,f 83,f 84,f 85,f 86,f 87,f 88,f 89,f 90,f 91,f 92,f 93,f 94,f 95,f 96,f 97,f 98,f 99,f 100,f 101,f 102,f 103],defers:=[] }:Act)
structure SkN (u:Nat) (w:World) (slot gen:Int) (x:Nd) (v:Value) (a:Int) (r:Int × Int) (d:Nat) (W:List (Int × Int)) (w1:World):Prop where
 an:w1.heap[u]?=some (.cells #[.int .i64 slot,.int .u32 gen] 36 (0,0))
 sp:w1.heap[u+1]?=some (.cells #[.int .i64 0,v,.int .i64 a,.int .i64 (d:Nat)] 107 (0,0))
 ow:w1.ownsRow (u+1+1+1+1) 36 2 v W.length (z1z W)
 nd:w1.heap[u+1+1]?=some (.cells #[.int .i64 x.kind,.string x.code,.string x.value,.string x.path,.slice x.bytes.a x.bytes.n x.bytes.c,.slice x.kids.a x.kids.n x.kids.c] 102 (0,0))
 rf:w1.heap[u+1+1+1]?=some (.cells #[.int .i64 r.1,.int .u32 r.2] 36 (0,0))
 b:Below u w w1
variable {v:Value}
theorem SkI.push {r:Int × Int} {v':Value} {o':Obj} (h:SkI u w slot gen r d W w1) (h1:w1.heap[u+1]?=some (.cells #[.int .i64 0,v,.int .i64 a,.int .i64 (d:Nat)] 107 (0,0))) (hv:w1.ownsRow (u+1+1+1+1) 36 2 v W.length (z1z W))
 (g1:w2.ownsRow (u+1+1+1+1) 36 2 v' (W.length+1) (z1z W++[.int .i64 r.1,.int .u32 r.2])) (g2:(w1.alloc o').grownBy w2 v.ownBlock) :
 w2.heap[u+1]?=some (.cells #[.int .i64 0,v,.int .i64 a,.int .i64 (d:Nat)] 107 (0,0))/\(w2.setCell ⟨u+1,1,none⟩ v').heap[u+1]?=some (.cells #[.int .i64 0,v',.int .i64 a,.int .i64 (d:Nat)] 107 (0,0))/\(w2.setCell ⟨u+1,1,none⟩ v').ownsRow (u+1+1+1+1) 36 2 v' (W++[r]).length (z1z (W++[r]))/\SkI u w slot gen r d (W++[r]) (w2.setCell ⟨u+1,1,none⟩ v'):=by
 have hA:Mod (fun _=>False) w1 (w1.alloc o'):=⟨rfl,rfl,rfl,by simp,fun k hk _=>Below.heap_alloc _ _ _ hk⟩
 have hG:Mod (fun k=>v.ownBlock=some k) (w1.alloc o') w2:=⟨g2.os,g2.tape,g2.output,g2.size,fun k hk hn=>g2.block k hk (fun e=>hn e.symm)⟩
 have hW2:Mod (fun k=>v.ownBlock=some k) w1 w2:=(hA.mono fun _ _ h=>h.elim).trans hG (fun _ _ h=>h)
 have hM:Mod (fun k=>v.ownBlock=some k\/k=u+1) w1 (w2.setCell ⟨u+1,1,none⟩ v'):=Mod.setCell (S:=fun k=>v.ownBlock=some k\/k=u+1) (p:=⟨u+1,1,none⟩) (hW2.mono fun _ _ h=>.inl h) (.inl (.inr rfl)) _
 have hge:∀ k,v.ownBlock=some k->u+1+1+1+1<=k:=fun k hk=>(O.z2a hv hk).1
 have ho2:w2.heap[u+1]?=some (.cells #[.int .i64 0,v,.int .i64 a,.int .i64 (d:Nat)] 107 (0,0)):=(hW2.block _ (lt_of_block h1) (fun e=>by have:=hge _ e;omega)).trans h1
 have ho3:(w2.setCell ⟨u+1,1,none⟩ v').heap[u+1]?=some (.cells #[.int .i64 0,v',.int .i64 a,.int .i64 (d:Nat)] 107 (0,0)):=by
  have:=heap_set (i:=1) (v:=v') ho2
  simpa using this
 have hge2:∀ k,v'.ownBlock=some k->u+1+1+1+1<=k:=fun k hk=>(O.z2a g1 hk).1
 have hMs:Mod (·=u+1) w2 (w2.setCell ⟨u+1,1,none⟩ v'):=Mod.setCell (S:=(·=u+1)) (p:=⟨u+1,1,none⟩) (Mod.refl _ _) (.inl rfl) _
 have how:(w2.setCell ⟨u+1,1,none⟩ v').ownsRow (u+1+1+1+1) 36 2 v' (W++[r]).length (z1z (W++[r])):=by
  rw[refsL_app,List.length_append]
  exact O.z0h g1 hMs (fun k hk e=>by have:=hge2 k hk;have:k=u+1:=e;omega)
 have e:∀ {k:Nat} {o:Obj},k<u+1+1+1+1->k≠u+1->w1.heap[k]?=some o->(w2.setCell ⟨u+1,1,none⟩ v').heap[k]?=some o:=fun hk hne h=>(hM.block _ (lt_of_block h) (fun e=>e.elim (fun e=>by have:=hge _ e;omega) hne)).trans h
 obtain⟨a0,a1,a2,a3,a4,a5,hnd⟩:=h.nd
 refine⟨ho2,ho3,how,⟨e (by omega) (by omega) h.an,⟨_,_,ho3,how⟩,⟨_,_,_,_,_,_,e (by omega) (by omega) hnd⟩,e (by omega) (by omega) h.rf,?_⟩⟩
 exact h.b.trans ⟨hM.os,hM.tape,hM.output,hM.size,fun k hk=>hM.block k (by have:=lt_of_block h.an;omega) (fun e=>e.elim (fun e=>by have:=hge _ e;omega) (fun e=>by omega))⟩
theorem z0x {W:World} (h:Below u w W) (hM:Mod (·=k) W w1) (hk:u<=k) (hz:u<=W.heap.size):Below u w w1 :=
 h.trans ⟨hM.os,hM.tape,hM.output,hM.size,fun j hj=>hM.block j (by omega) (by show ¬ j=k;omega)⟩
structure SkJ (T:TypeId) (b:Nat) (W:World) (cs:Array Value) (w1:World):Prop where
 m:Mod (·=b) W w1
 c:w1.heap[b]?=some (.cells cs T (0,0))
theorem SkJ.below {T:TypeId} {b:Nat} {W:World} {cs:Array Value} (h:SkJ T b W cs w1) (hb:Below w1.heap.size w1 w2):SkJ T b W cs w2:=⟨h.m.trans (Mod.z0j hb) (fun _ _ h=>h),(hb.block _ (lt_of_block h.c)).trans h.c⟩
variable {c:ByteArray} {P:List (Cel PNd)}
theorem SeekW.live {r:Int × Int} {s:SpotP} (h:SeekW P c r d W s):∃ i q,z0l P r.1 r.2 i q:=by
 cases h<;>exact⟨_,_,by assumption⟩
variable {q:PNd}
theorem SeekW.leafI {r:Int × Int} {s:SpotP} {c' v:ByteArray} (h:SeekW P c r d W s) (hq:z0l P r.1 r.2 i q) (hn:q.n=.leaf c' v) :
 d<=c'.size/\s=⟨if c'=c then 1 else 4,W++[r],if c'=c then 0 else com (rst c d) (rst c' d),d⟩:=by
 cases h with
 | leaf h2 hn2 h3 h4 =>
  have:=(hq.uniq h2).2
  subst this
  rw[hn] at hn2
  cases hn2
  exact⟨h4,rfl⟩
 | split h2 hn2 h3 h4 =>
  have:=(hq.uniq h2).2
  subst this
  rw[hn] at hn2
  cases hn2
 | bare h2 hn2 h3 h4 h5 h6 =>
  have:=(hq.uniq h2).2
  subst this
  rw[hn] at hn2
  cases hn2
 | down h2 hn2 h3 h4 h5 h6 h7 =>
  have:=(hq.uniq h2).2
  subst this
  rw[hn] at hn2
  cases hn2
theorem SeekW.innerI {r:Int × Int} {s:SpotP} {pt:ByteArray} {L:List Kd} (h:SeekW P c r d W s) (hq:z0l P r.1 r.2 i q) (hn:q.n=.z0k k pt L) :
 (com (rst c d) pt<pt.size/\s=⟨3,W++[r],com (rst c d) pt,d⟩)\/(com (rst c d) pt=pt.size/\∃ x,(byt (rst c d))[pt.size]?=some x/\((z0p L x.toNat=none/\s=⟨2,W++[r],x.toNat,d⟩)\/∃ kk,z0p L x.toNat=some kk/\SeekW P c (kk.s,kk.g) (d+pt.size+1) (W++[r]) s)):=by
 cases h with
 | leaf h2 hn2 h3 h4 =>
  have:=(hq.uniq h2).2
  subst this
  rw[hn] at hn2
  cases hn2
 | split h2 hn2 h3 h4 =>
  have:=(hq.uniq h2).2
  subst this
  rw[hn] at hn2
  cases hn2
  exact .inl ⟨h4,rfl⟩
 | bare h2 hn2 h3 h4 h5 h6 =>
  have:=(hq.uniq h2).2
  subst this
  rw[hn] at hn2
  cases hn2
  exact .inr ⟨h4,_,h5,.inl ⟨h6,rfl⟩⟩
 | down h2 hn2 h3 h4 h5 h6 h7 =>
  have:=(hq.uniq h2).2
  subst this
  rw[hn] at hn2
  cases hn2
  exact .inr ⟨h4,_,h5,.inr ⟨_,h6,h7⟩⟩
theorem SkN.keep {x:Nd} {r:Int × Int} (h:SkN u w slot gen x v a r d W w1) (hb:Below w1.heap.size w1 w2):SkN u w slot gen x v a r d W w2:=by
 have e:∀ {k:Nat} {o:Obj},w1.heap[k]?=some o->w2.heap[k]?=some o:=fun h=>(hb.block _ (lt_of_block h)).trans h
 exact⟨e h.an,e h.sp,O.z0h h.ow (O.z0n (S:=fun _=>False) hb) (fun _ _ h=>h),e h.nd,e h.rf,h.b.trans (hb.mono (by have:=lt_of_block h.an;omega))⟩
theorem SkN.turn {x:Nd} {r:Int × Int} {a':Int} {d':Nat} (h:SkN u w slot gen x v a r d W w1) (hM:Mod (·=u+1) w1 w2) (hc:w2.heap[u+1]?=some (.cells #[.int .i64 0,v,.int .i64 a',.int .i64 (d':Nat)] 107 (0,0))):SkN u w slot gen x v a' r d' W w2:=by
 have e:∀ {k:Nat} {o:Obj},k≠u+1->w1.heap[k]?=some o->w2.heap[k]?=some o:=fun hk h=>(hM.block _ (lt_of_block h) hk).trans h
 exact⟨e (by omega) h.an,hc,O.z0h h.ow hM (fun k hk e=>by have:=(O.z2a h.ow hk).1;have:k=u+1:=e;omega),e (by omega) h.nd,e (by omega) h.rf,z0x h.b hM (by omega) (by have:=lt_of_block h.an;omega)⟩
theorem SkN.at_ {x:Nd} {r:Int × Int} (h:SkN u w slot gen x v a r d W w1) (a':Int):SkN u w slot gen x v a' r d W (w1.setCell ⟨u+1,2,none⟩ (.int .i64 a')) :=
 h.turn (Mod.setCell (S:=(·=u+1)) (p:=⟨u+1,2,none⟩) (Mod.refl _ _) (.inl rfl) _) (by simpa using heap_set (i:=2) (v:=.int .i64 a') h.sp)
theorem SkN.dep {x:Nd} {r:Int × Int} (h:SkN u w slot gen x v a r d W w1) (d':Nat):SkN u w slot gen x v a r d' W (w1.setCell ⟨u+1,3,none⟩ (.int .i64 d')) :=
 h.turn (Mod.setCell (S:=(·=u+1)) (p:=⟨u+1,3,none⟩) (Mod.refl _ _) (.inl rfl) _) (by simpa using heap_set (i:=3) (v:=.int .i64 d') h.sp)
theorem SkN.ref {x:Nd} {r:Int × Int} {r':Int × Int} (h:SkN u w slot gen x v a r d W w1) (hM:Mod (·=u+1+1+1) w1 w2) (hc:w2.heap[u+1+1+1]?=some (.cells #[.int .i64 r'.1,.int .u32 r'.2] 36 (0,0))):SkN u w slot gen x v a r' d W w2:=by
 have e:∀ {k:Nat} {o:Obj},k≠u+1+1+1->w1.heap[k]?=some o->w2.heap[k]?=some o:=fun hk h=>(hM.block _ (lt_of_block h) hk).trans h
 exact⟨e (by omega) h.an,e (by omega) h.sp,O.z0h h.ow hM (fun k hk e=>by have:=(O.z2a h.ow hk).1;have:k=u+1+1+1:=e;omega),e (by omega) h.nd,hc,z0x h.b hM (by omega) (by have:=lt_of_block h.an;omega)⟩
theorem SkN.skI {x:Nd} {r:Int × Int} (h:SkN u w slot gen x v a r d W w1):SkI u w slot gen r d W w1:=⟨h.an,⟨_,_,h.sp,h.ow⟩,⟨_,_,_,_,_,_,h.nd⟩,h.rf,h.b⟩
theorem SkN.dOf {u:Nat} {w:World} {slot gen:Int} {x:Nd} {v:Value} {a:Int} {r:Int × Int} {d:Nat} {W:List (Int × Int)} {w1:World} (h:SkN u w slot gen x v a r d W w1):dOf (u+1) w1=d:=by
 have:=cell_of h.sp 3
 simp at this
 simp[T.dOf,this]
theorem set4_at {T:TypeId} {c:Nat} {a0 a1 a2 a3:Value} (b0 b1 b2 b3:Value) (h:w.heap[c]?=some (.cells #[a0,a1,a2,a3] T (0,0))) :
 ((((w.setCell ⟨c,0,none⟩ b0).setCell ⟨c,1,none⟩ b1).setCell ⟨c,2,none⟩ b2).setCell ⟨c,3,none⟩ b3).heap[c]?=some (.cells #[b0,b1,b2,b3] T (0,0))/\Mod (·=c) w ((((w.setCell ⟨c,0,none⟩ b0).setCell ⟨c,1,none⟩ b1).setCell ⟨c,2,none⟩ b2).setCell ⟨c,3,none⟩ b3):=by
 have stp:∀ {A:World} (j:Nat) (v:Value),Mod (·=c) w A->Mod (·=c) w (A.setCell ⟨c,j,none⟩ v):=fun j v h=>Mod.setCell (S:=(·=c)) (p:=⟨c,j,none⟩) h (.inl rfl) v
 refine⟨?_,stp _ _ (stp _ _ (stp _ _ (stp _ _ (Mod.refl _ _))))⟩
 have:=heap_set (i:=3) (v:=b3) (heap_set (i:=2) (v:=b2) (heap_set (i:=1) (v:=b1) (heap_set (i:=0) (v:=b0) h)))
 simpa using this
theorem z2g {B B':Nat} {e:TypeId} {s n:Nat} {xs:List Value} (h:w.ownsRow B e s v n xs) (hb:B'<=B):w.ownsRow B' e s v n xs:=by
 obtain⟨h1,h2|⟨g,cap,cur,a,b,c⟩⟩:=h
 ·exact⟨h1,.inl h2⟩
 ·exact⟨h1,.inr ⟨g,cap,cur,a,Nat.le_trans hb b,c⟩⟩
theorem SkN.fin {x:Nd} {r:Int × Int} (h:SkN u w slot gen x v a r d W w1) (hM:Mod (·=u+1) w1 w2):w2.ownsRow u 36 2 v W.length (z1z W)/\Below u w w2 :=
 ⟨z2g (O.z0h h.ow hM (fun k hk e=>by have:=(O.z2a h.ow hk).1;have:k=u+1:=e;omega)) (by omega),z0x h.b hM (by omega) (by have:=lt_of_block h.an;omega)⟩
def bjL:List Nat:=[0,1,2,3,4,5,7]
structure BJ (u:Nat) (W0:World) (v:Value) (a d x:Int) (tab:Nat->Value) (D:Nat->Bool) (xs:Nat->Value) (w:World):Prop where
 m:Mod (·=u+1) W0 w
 c:w.heap[u+1]?=some (.cells #[.int .i64 (cond (D 6) 2 0),v,.int .i64 (cond (D 8) x a),.int .i64 d] 107 (0,0))
 v:∀ j,D j=true->j∈bjL->xs j=tab j
 o:D 3=true\/D 4=true\/D 8=true->D 2=true
section
variable {u:Nat} {W0 w:World} {v:Value} {a d x:Int} {tab:Nat->Value} {D:Nat->Bool} {xs:Nat->Value}
theorem BJ.start (hc:W0.heap[u+1]?=some (.cells #[.int .i64 0,v,.int .i64 a,.int .i64 d] 107 (0,0))):BJ u W0 v a d x tab (fun _=>false) (fun _=>undef) W0.drew :=
 ⟨(Mod.refl _ _).drew,hc,fun j h=>(by cases h),fun h=>(by simp at h)⟩
theorem BJ.vs (h:BJ u W0 v a d x tab D xs w) {i:Nat} {q:Value} (hu:i∈bjL->q=tab i):∀ j,(D j || j == i)=true->j∈bjL->(if j=i then q else xs j)=tab j:=fun j hj hr=>by
 by_cases e:j=i
 ·subst e;simp only[if_pos];exact hu hr
 ·simp only[if_neg e];exact h.v j (by simpa[e] using hj) hr
theorem BJ.calm (h:BJ u W0 v a d x tab D xs w) {i:Nat} {q:Value} (h6:i≠6) (h8:i≠8) (hu:i∈bjL->q=tab i) (ho:i=3\/i=4->D 2=true):BJ u W0 v a d x tab (fun j=>D j || j == i) (fun j=>if j=i then q else xs j) w:=by
 have n6:¬ 6=i:=fun e=>h6 e.symm
 have n8:¬ 8=i:=fun e=>h8 e.symm
 have e6:(D 6 || 6 == i)=D 6:=by simp[n6]
 have e8:(D 8 || 8 == i)=D 8:=by simp[n8]
 refine⟨h.m,by simp only[e6,e8];exact h.c,h.vs hu,fun e=>?_⟩
 simp only[e8,Bool.or_eq_true,beq_iff_eq] at e ⊢
 rcases e with (e|e)|(e|e)|e
 ·exact .inl (h.o (.inl e))
 ·exact .inl (ho (.inl e.symm))
 ·exact .inl (h.o (.inr (.inl e)))
 ·exact .inl (ho (.inr e.symm))
 ·exact .inl (h.o (.inr (.inr e)))
theorem BJ.st6 (h:BJ u W0 v a d x tab D xs w) {q:Value}:BJ u W0 v a d x tab (fun j=>D j || j == 6) (fun j=>if j=6 then q else xs j) (w.setCell ⟨u+1,0,none⟩ (.int .i64 2)):=by
 refine⟨h.m.setCell (p:=⟨u+1,0,none⟩) (.inl rfl) _,?_,h.vs (fun e=>absurd e (by decide)),fun e=>?_⟩
 ·have:=heap_set (i:=0) (v:=.int .i64 2) h.c
  simpa using this
 ·simpa using h.o (by simpa using e)
theorem BJ.st8 (h:BJ u W0 v a d x tab D xs w) (h2:D 2=true) {q:Value}:BJ u W0 v a d x tab (fun j=>D j || j == 8) (fun j=>if j=8 then q else xs j) (w.setCell ⟨u+1,2,none⟩ (.int .i64 x)):=by
 refine⟨h.m.setCell (p:=⟨u+1,2,none⟩) (.inl rfl) _,?_,h.vs (fun e=>absurd e (by decide)),fun _=>by simp[h2]⟩
 have:=heap_set (i:=2) (v:=.int .i64 x) h.c
 simpa using this
end
theorem ba_inj {a b:ByteArray} (h:a.toList=b.toList):a=b:=by
 rw[ByteArray.toList_eq,ByteArray.toList_eq] at h
 cases a
 cases b
 congr
 exact Array.toList_inj.1 h
theorem wrap_byte (n:Int) (h0:0<=n) (h1:n<256):IntKind.i64.wrap n=n:=by rw[IntKind.wrap_i64];omega
theorem wrap_u8 (x:UInt8):IntKind.i64.wrap (x.toNat:Int)=(x.toNat:Int):=wrap_byte _ (by omega) (by have:=x.toNat_lt;omega)
theorem jump_self {F:(Nat->Value)->Act} {a:Act} {p:Prop} (h:a=F (fun i=>a.tmps.getD i undef)) (hp:p):∃ f,a=F f/\p:=⟨_,h,hp⟩
theorem SeekW.depth {r:Int × Int} {s:SpotP} (h:SeekW P c r d W s):d<=c.size:=by
 cases h<;>assumption
set_option maxRecDepth 100000 in
set_option maxHeartbeats 8000000 in
theorem Seek_at {t sb sg kb km:Nat} {l:List (Cel Nd)} {L:List (RefK × Wd)} {tk:Int} {s:SpotP} (w:World) (h:TreeAt w t sb sg kb km l L tk) (hR:Rel w l P) (hr:RoomsAt w) (hc:z2l c) (hq:z0l P slot gen i q) (hp:q.planted=true) (hs:SeekW P c (slot,gen) 0 [] s) :
 Calls Tryz.prog 30 #[.pointer (some ⟨t,0,none⟩),.agg #[.int .i64 slot,.int .u32 gen],.string c] w fun e w'=>∃ wa wc,e=.returned (.tuple #[.agg #[.int .i64 s.what,.slice wa s.way.length wc,.int .i64 s.at_,.int .i64 s.depth],.int .i64 0]) /\
  w'.ownsRow w.heap.size 36 2 (.slice wa s.way.length wc) s.way.length (z1z s.way)/\Below w.heap.size w w':=by
 have hs1:(w.alloc (.cells #[.int .i64 slot,.int .u32 gen] 36 (0,0))).heap.size=w.heap.size+1:=by simp
 have hs2:((w.alloc (.cells #[.int .i64 slot,.int .u32 gen] 36 (0,0))).alloc (.cells #[.int .i64 0,.slice none 0 0,.int .i64 0,.int .i64 0] 107 (0,0))).heap.size=w.heap.size+1+1:=by simp
 have hs3:(((w.alloc (.cells #[.int .i64 slot,.int .u32 gen] 36 (0,0))).alloc (.cells #[.int .i64 0,.slice none 0 0,.int .i64 0,.int .i64 0] 107 (0,0))).alloc (.cells #[.int .i64 0,.string ⟨#[]⟩,.string ⟨#[]⟩,.string ⟨#[]⟩,.slice none 0 0,.slice none 0 0] 102 (0,0))).heap.size=w.heap.size+1+1+1:=by simp
 have b0:=z0c (o':=(.cells #[.int .i64 slot,.int .u32 gen] 36 (0,0))) (z0c (o':=(.cells #[.int .i64 0,.string ⟨#[]⟩,.string ⟨#[]⟩,.string ⟨#[]⟩,.slice none 0 0,.slice none 0 0] 102 (0,0))) (z0c (o':=(.cells #[.int .i64 0,.slice none 0 0,.int .i64 0,.int .i64 0] 107 (0,0))) (z0a w (.cells #[.int .i64 slot,.int .u32 gen] 36 (0,0)))))
 have b1:=z0c (o':=(.cells #[.int .i64 slot,.int .u32 gen] 36 (0,0))) (z0c (o':=(.cells #[.int .i64 0,.string ⟨#[]⟩,.string ⟨#[]⟩,.string ⟨#[]⟩,.slice none 0 0,.slice none 0 0] 102 (0,0))) (z0a (w.alloc (.cells #[.int .i64 slot,.int .u32 gen] 36 (0,0))) (.cells #[.int .i64 0,.slice none 0 0,.int .i64 0,.int .i64 0] 107 (0,0))))
 have b2:=z0c (o':=(.cells #[.int .i64 slot,.int .u32 gen] 36 (0,0))) (z0a ((w.alloc (.cells #[.int .i64 slot,.int .u32 gen] 36 (0,0))).alloc (.cells #[.int .i64 0,.slice none 0 0,.int .i64 0,.int .i64 0] 107 (0,0))) (.cells #[.int .i64 0,.string ⟨#[]⟩,.string ⟨#[]⟩,.string ⟨#[]⟩,.slice none 0 0,.slice none 0 0] 102 (0,0)))
 have b3:=z0a (((w.alloc (.cells #[.int .i64 slot,.int .u32 gen] 36 (0,0))).alloc (.cells #[.int .i64 0,.slice none 0 0,.int .i64 0,.int .i64 0] 107 (0,0))).alloc (.cells #[.int .i64 0,.string ⟨#[]⟩,.string ⟨#[]⟩,.string ⟨#[]⟩,.slice none 0 0,.slice none 0 0] 102 (0,0))) (.cells #[.int .i64 slot,.int .u32 gen] 36 (0,0))
 rw[hs1] at b1
 rw[hs2] at b2
 rw[hs3] at b3
 have hB:Below w.heap.size w ((((w.alloc (.cells #[.int .i64 slot,.int .u32 gen] 36 (0,0))).alloc (.cells #[.int .i64 0,.slice none 0 0,.int .i64 0,.int .i64 0] 107 (0,0))).alloc (.cells #[.int .i64 0,.string ⟨#[]⟩,.string ⟨#[]⟩,.string ⟨#[]⟩,.slice none 0 0,.slice none 0 0] 102 (0,0))).alloc (.cells #[.int .i64 slot,.int .u32 gen] 36 (0,0))):=((((Below.refl _ _).alloc (Nat.le_refl _) _).alloc (by simp) _).alloc (by simp;omega) _).alloc (by simp;omega) _
 have hlt:t<w.heap.size/\sb<w.heap.size/\sg<w.heap.size/\kb<w.heap.size/\km<w.heap.size:=⟨lt_of_block h.ht,h.hs.blt,h.hs.glt,h.hk.lt.1,h.hk.lt.2⟩
 obtain⟨c1,hL1,hpl1,_,_⟩:=hR.live hq
 rw[hp] at hpl1
 generalize hu:w.heap.size=u at *
 have HU:=hid hu
 have HLT:=hid hlt
 have HT:=hid h
 have HR:=hid hR
 have HRM:=hid hr
 have HC:=hid hc
 have HS:=hid hs
 clear h hR hr hc hs hq hp hs1 hs2 hs3 hlt
 go_enter Tryz.func30,Tryz.ntmps30
 go_wp2_with fail
 refine @wp_scope_two Tryz.prog _ _ _ _ ?r0 ?r1 0 1 (fun a' W=>∃ f,a'=frD t u slot gen c f/\∃ r d Wy,SkI u w slot gen r d Wy W/\SeekW P c r d Wy s/\Wy.length<=d) (fun a' W=>∃ rest f,a'=frL t u slot gen c rest f/\∃ x c' v r d Wy,NdIs w x (.leaf c' v)/\SkL u w x d (Wy++[r]) W/\rest=rst c d/\d<=c'.size/\s=⟨if c'=c then 1 else 4,Wy++[r],if c'=c then 0 else com (rst c d) (rst c' d),d⟩) (fun _ W=>c.size - dOf (u+1) W) ?h0 ?h1 ?first ?pass0 ?pass1
 case h0=>rfl
 case h1=>rfl
 case first =>
  intro hdown
  have hdown:=hid hdown
  have a0:=cell_of b0 0
  have a1:=cell_of b0 1
  have TM:=hid (tmade_at ((((w.alloc (.cells #[.int .i64 slot,.int .u32 gen] 36 (0,0))).alloc (.cells #[.int .i64 0,.slice none 0 0,.int .i64 0,.int .i64 0] 107 (0,0))).alloc (.cells #[.int .i64 0,.string ⟨#[]⟩,.string ⟨#[]⟩,.string ⟨#[]⟩,.slice none 0 0,.slice none 0 0] 102 (0,0))).alloc (.cells #[.int .i64 slot,.int .u32 gen] 36 (0,0))) (HT.out.keep (hu ▸ hB)).ht)
  go_wp2_with (go_at_call 56;refine TM.out.mono ?_;rintro e w2 ⟨rfl,rfl⟩)
  have hT0:=HT.out.keep (hu ▸ hB)
  have HSK:=hid (⟨b0,⟨_,_,b1,World.ownsRow_nil _ _ _ _⟩,⟨_,_,_,_,_,_,b2⟩,b3,hB⟩:SkI u w slot gen (slot,gen) 0 [] ((((w.alloc (.cells #[.int .i64 slot,.int .u32 gen] 36 (0,0))).alloc (.cells #[.int .i64 0,.slice none 0 0,.int .i64 0,.int .i64 0] 107 (0,0))).alloc (.cells #[.int .i64 0,.string ⟨#[]⟩,.string ⟨#[]⟩,.string ⟨#[]⟩,.slice none 0 0,.slice none 0 0] 102 (0,0))).alloc (.cells #[.int .i64 slot,.int .u32 gen] 36 (0,0))))
  generalize ((((w.alloc (.cells #[.int .i64 slot,.int .u32 gen] 36 (0,0))).alloc (.cells #[.int .i64 0,.slice none 0 0,.int .i64 0,.int .i64 0] 107 (0,0))).alloc (.cells #[.int .i64 0,.string ⟨#[]⟩,.string ⟨#[]⟩,.string ⟨#[]⟩,.slice none 0 0,.slice none 0 0] 102 (0,0))).alloc (.cells #[.int .i64 slot,.int .u32 gen] 36 (0,0)))=W0 at *
  have H0:=hid b0
  have HT0:=hid hT0
  have HPL:Hid (∀ w1,Below W0.heap.size W0 w1->Calls Tryz.prog 37 #[.pointer (some ⟨t,0,none⟩),.agg #[.int .i64 slot,.int .u32 gen]] w1 fun e w'=>e=.returned (.bool true)/\Below w1.heap.size w1 w'):=hid fun w1 hw1=>by
   have:=planted_at slot gen w1 (HT0.out.keep hw1) hL1
   rw[hpl1] at this
   exact this
  clear a0 a1 b0 b1 b2 b3 hT0 hB TM
  refine z0g 7 (fun w1=>Below (W0).heap.size (W0) w1) (by kernel_rfl) (by kernel_rfl) (by kernel_rfl) ⟨rfl,rfl,rfl,Nat.le_refl _,fun _ _=>rfl⟩ ?_
  dsimp only[List.take]
  iterate 7
   refine Seq.cons (a':=?_) ?_ ?_ ?_
   rotate_left
   ·intro w1 hw1
    have k0:=cell_of (z0b H0.out hw1 (lt_of_block H0.out)) 0;have k1:=cell_of (z0b H0.out hw1 (lt_of_block H0.out)) 1
    go_wp2_with (go_at_call 37;refine (HPL.out _ hw1).mono ?_;rintro e w' ⟨rfl,hb⟩)
    refine⟨?_,by first|assumption|(simpa using z0d hw1 hb hw1.size)⟩
    exact rfl
   ·kernel_rfl
  refine SeqI.nil ?_
  intro _ w1 _ hw1
  dsimp only[List.drop]
  have HW1:=hid hw1
  have HIS:=hid (D.Is_at w1 HC.out)
  clear hw1
  go_wp2_with (go_at_call 64;refine HIS.out.mono ?_;rintro e w2 ⟨rfl,hb2⟩)
  rename_i hk
  refine wp_label (hk _ _ ?_)
  have hw2:=HW1.out.trans (hb2.mono HW1.out.size)
  exact hdown.out _ _ (jump_intro (F:=frD t u slot gen c) (fun i=>([.pointer (some ⟨t,0,none⟩),.agg #[.int .i64 slot,.int .u32 gen],.string c,undef,.pointer (some ⟨u,0,none⟩),undef,.pointer (some ⟨(u+1),0,none⟩),.int .i64 0,.pointer (some ⟨(u+1+1),0,none⟩),.string ⟨#[]⟩,.bool false,.pointer (some ⟨(u+1+1+1),0,none⟩),.agg #[.int .i64 slot,.int .u32 gen],.bool false,.pointer (some ⟨t,0,none⟩),.bool true,.bool false,undef,.bool false,.pointer (some ⟨t,0,none⟩),.pointer (some ⟨t,0,none⟩),.pointer (some ⟨t,0,none⟩),.agg #[.int .i64 slot,.int .u32 gen],.bool true,.bool false,undef,.bool false,.string c,.bool true,.bool false]:List Value).getD i undef) (by kernel_rfl) ⟨_,_,_,HSK.out.keep hw2,HS.out,Nat.le_refl _⟩)
 case pass0 =>
  rintro a' W ⟨f,rfl,r,d,Wy,hI,hsk,hwd⟩
  clear b0 b1 b2 b3 hB hL1 hpl1 HS
  unfold frD
  obtain⟨v,at_,hsp,how⟩:=hI.sp
  obtain⟨i1,hi1,hz1,hsz1,hby1⟩:=info_parts (P:=Tryz.prog) (e:=36) (z:=.agg #[.int .i64 0,.int .u32 0]) (size:=2) (bytes:=16) (by kernel_rfl)
  have HI1:=hid hi1
  have HZ1:=hid hz1
  have HS1:=hid hsz1
  have HY1:=hid hby1
  have hdep:dOf (u+1) W=d:=by
   have:=cell_of hsp 3
   simp at this
   simp[dOf,this]
  have hnb:=z0a W (.cells #[.int .i64 r.1,.int .u32 r.2] 36 (0,0))
  have q0:=cell_of hsp 1
  have r0:=cell_of hI.rf 0
  have r1:=cell_of hI.rf 1
  have HI:=hid hI
  have HSP:=hid hsp
  have HOW:=hid how
  have HNB:=hid hnb
  have hsz:=lt_of_block hI.rf
  have hwl:Wy.length<=100:=by have:=SeekW.depth hsk;have:=HC.out.size;omega
  have HSK:=hid hsk
  clear hi1 hz1 hsz1 hby1 hsp how hnb hI hsk
  go_wp2_with (at_builtin;go_loud (refine wpList_append_own_at (W.alloc (.cells #[.int .i64 r.1,.int .u32 r.2] 36 (0,0))) rfl (.tmp 32) (.tmp 34) 39 rfl (u+1+1+1+1) 36 i1 (.agg #[.int .i64 0,.int .u32 0]) 2 16 Tryz.underlying39 HI1.out HZ1.out HS1.out HY1.out rfl (by decide) v Wy.length (z1z Wy) (by kernel_rfl) (HOW.out.alloc _) ⟨W.heap.size,0,none⟩ 1 1 [.int .i64 r.1,.int .u32 r.2] (by kernel_rfl) rfl (fun j z hj=>by rw[addr_add0,Nat.zero_add,cell_of HNB.out,List.getElem?_toArray];exact hj) (by simp[Value.oneCell']) (by simp[maxLen];omega) (by omega) (by simp;omega) ?_))
  intro v' w2 g1 g2 _ g4
  obtain⟨wa,wc,rfl⟩:=O.own_form2 g1
  obtain⟨ho2,ho3,how3,hI3⟩:=SkI.push HI.out HSP.out HOW.out g1 g2
  have q1:=cell_of ho2 1
  have qf:=z0e ho2
  have q2:=cell_of ho3 3
  have HO3:=hid ho3
  have HOW3:=hid how3
  have HI3:=hid hI3
  clear ho2 ho3 how3 hI3 g1 g2 g4 q0 HOW HSP HI
  go_wp2_with fail
  clear q1 qf q2 r0 r1
  generalize w2.setCell ⟨u+1,1,none⟩ (.slice wa (Wy.length+1) wc)=W3 at *
  obtain⟨i',q',hq'⟩:=SeekW.live HSK.out
  obtain⟨⟨xis,⟨kn,cd,vl,xp,⟨ya,yn,yc⟩,⟨za,zn,zc⟩,xpl,xdi⟩,xgn⟩,hLx,_,_,hNx⟩:=HR.out.live hq'
  simp only at hNx
  obtain⟨a0,a1,a2,a3,a4,a5,hnd⟩:=HI3.out.nd
  have hdc:=SeekW.depth HSK.out
  have hz3:u+1+1+1<W3.heap.size:=lt_of_block HI3.out.rf
  have hT3:∀ w1,Mod (·=u+1+1) W3 w1->TreeAt w1 t sb sg kb km l L tk:=fun w1 hM=>HT.out.keep (hu ▸ z0x HI3.out.b hM (by omega) (by omega))
  have HT3:=hid hT3
  have HLX:=hid hLx
  have HNX:=hid hNx
  have HQX:=hid hq'
  have HND:=hid hnd
  clear hT3 hLx hNx hq' hnd
  refine z0f 11 (Turn 9 (SkJ 102 (u+1+1) W3 #[a0,a1,a2,a3,a4,a5]) (SkJ 102 (u+1+1) W3 #[.int .i64 kn,.string cd,.string vl,.string xp,.slice ya yn yc,.slice za zn zc])) (by kernel_rfl) (by kernel_rfl) (by kernel_rfl) (Turn.start ⟨(Mod.refl _ _).drew,HND.out⟩) ?_
  dsimp only[List.take]
  iterate 9
   refine Seq.calm (a':=?_) (by decide) ?_ ?_ ?_
   rotate_left
   ·intro w1 hw1
    have hw1':=hw1
    have hM:=hw1.elim (·.m) (·.m)
    have t0:=cell_of (HT3.out _ hM).ht 0
    have n5:=cell_of ((hM.block (u+1+1+1) (by omega) (by show ¬ _=_;omega)).trans HI3.out.rf) 0
    have n6:=cell_of ((hM.block (u+1+1+1) (by omega) (by show ¬ _=_;omega)).trans HI3.out.rf) 1
    have s3:=cell_of ((hM.block (u+1) (by omega) (by show ¬ _=_;omega)).trans HO3.out) 3
    clear hM hw1
    go_wp2_with (go_at_call 32;refine (node_at r.1 r.2 _ (HT3.out _ (hw1'.elim (·.m) (·.m))) HLX.out).mono ?_;rintro e w' ⟨rfl,hb⟩)
    first|(refine⟨?_,id,id⟩;exact rfl)|(refine⟨?_,fun h=>h.below hb,fun h=>h.below hb⟩;exact rfl)
   ·kernel_rfl
  refine Seq.turn (a':=?_) ?_ ?_ ?_
  rotate_left
  ·intro w1 hw1
   have hM:=hw1.m
   have hc:=hw1.c
   have q0:=cell_of hc 0
   have q1:=cell_of hc 1
   have q2:=cell_of hc 2
   have q3:=cell_of hc 3
   have q4:=cell_of hc 4
   have q5:=cell_of hc 5
   have qf:=z0e hc
   have HC1:=hid hc
   have HM:=hid hM
   clear hw1 hM hc
   go_wp2_with fail
   obtain⟨m1,m2⟩:=O.set6_at (.int .i64 kn) (.string cd) (.string vl) (.string xp) (.slice ya yn yc) (.slice za zn zc) HC1.out
   refine⟨?_,⟨HM.out.trans m2 (fun _ _ h=>h),m1⟩⟩
   exact rfl
  ·kernel_rfl
  iterate 1
   refine Seq.calm (a':=?_) (by decide) ?_ ?_ ?_
   rotate_left
   ·intro w1 hw1
    have hw1':=hw1
    have hM:=hw1.elim (·.m) (·.m)
    have t0:=cell_of (HT3.out _ hM).ht 0
    have n5:=cell_of ((hM.block (u+1+1+1) (by omega) (by show ¬ _=_;omega)).trans HI3.out.rf) 0
    have n6:=cell_of ((hM.block (u+1+1+1) (by omega) (by show ¬ _=_;omega)).trans HI3.out.rf) 1
    have s3:=cell_of ((hM.block (u+1) (by omega) (by show ¬ _=_;omega)).trans HO3.out) 3
    clear hM hw1
    go_wp2_with (go_at_call 32;refine (node_at r.1 r.2 _ (HT3.out _ (hw1'.elim (·.m) (·.m))) HLX.out).mono ?_;rintro e w' ⟨rfl,hb⟩)
    first|(refine⟨?_,id,id⟩;exact rfl)|(refine⟨?_,fun h=>h.below hb,fun h=>h.below hb⟩;exact rfl)
   ·kernel_rfl
  refine SeqI.nil ?_
  intro D w1 hD hI
  replace hI:=hI.done (hD 9 (by omega))
  clear hD
  dsimp only[List.drop]
  have hM:=hI.m
  have e:∀ {k:Nat} {o:Obj},k≠u+1+1->W3.heap[k]?=some o->w1.heap[k]?=some o:=fun hk h=>(hM.block _ (lt_of_block h) hk).trans h
  have hSN:SkN u w slot gen ⟨kn,cd,vl,xp,⟨ya,yn,yc⟩,⟨za,zn,zc⟩,xpl,xdi⟩ (.slice wa (Wy.length+1) wc) at_ r d (Wy++[r]) w1 :=
   ⟨e (by omega) HI3.out.an,e (by omega) HO3.out,O.z0h HOW3.out hM (fun k hk e=>by have:=(O.z2a HOW3.out hk).1;have:k=u+1+1:=e;omega),hI.c,e (by omega) HI3.out.rf,z0x HI3.out.b hM (by omega) (by omega)⟩
  have HSN:=hid hSN
  have q0:=cell_of hI.c 0
  have hNd:NdIs w1 _ _:=HNX.out.keep (hu ▸ hSN.b)
  have HND1:=hid hNd
  clear hM e hSN hI hNd
  cases hqn:q'.n with
  | leaf c' v1 =>
   rw[hqn] at HND1
   obtain⟨rfl,rfl,rfl,rfl,e5,e6⟩:=HND1.out
   cases e5
   cases e6
   go_wp2_with fail
   go_step3
   obtain⟨g1,g2⟩:=SeekW.leafI HSK.out HQX.out hqn
   have hs':=HSN.out
   exact .inr ⟨rfl,_,jump_self (F:=frL t u slot gen c (rst c d)) (by kernel_rfl) ⟨⟨1,cd,vl,⟨#[]⟩,⟨none,0,0⟩,⟨none,0,0⟩,xpl,xdi⟩,cd,vl,r,d,Wy,⟨rfl,rfl,rfl,rfl,rfl,rfl⟩,⟨⟨_,_,hs'.sp,hs'.ow⟩,hs'.nd,hs'.b⟩,rfl,g1,g2⟩⟩
  | z0k k pt Lk =>
   rw[hqn] at HND1
   obtain⟨rfl,rfl,rfl,rfl,hNI,hMB⟩:=HND1.out
   simp only at hNI q0
   obtain rfl:zn=Lk.length:=O.z1u hNI.z
   have hk2:=hNI.k1
   have hcs:=HC.out.size
   have q3:=cell_of HSN.out.nd 3
   have e1:((k:Int) == 1)=false:=beq_false_of_ne (by omega)
   have HCM:=hid (Go.Proofs.YtgdmfledhhoedaaGreatDoor.P.Common_at (a:=rst c d) (b:=xp) w1 (by rw[rst_size];omega))
   have HNIX:=hid hNI
   have HMB:=hid hMB
   have hST:=SeekW.innerI HSK.out HQX.out hqn
   have hnq:=HNX.out
   rw[hqn] at hnq
   have HNQ:=hid hnq
   clear hqn HND1 hnq
   rcases hST with ⟨hlt,rfl⟩|⟨hfull,x,hx,hrest⟩
   ·clear hNI hMB
    go_wp2_with (go_at_call 65;refine HCM.out.mono ?_;rintro e w5 ⟨rfl,hb5⟩;go_loud (have hS5:=HSN.out.keep hb5;have p2:=cell_of hS5.sp 2;have pf:=z0e hS5.sp;have hS6:=hS5.at_ (com (rst c d) xp);have r0:=cell_of hS6.sp 0;have r1:=cell_of hS6.sp 1;have r2:=cell_of hS6.sp 2;have r3:=cell_of hS6.sp 3;have rf:=z0e hS6.sp;have n3:=cell_of hS6.nd 3;have HS6:=hid hS6;clear hS5 hS6))
    have hS6:=HS6.out
    obtain⟨m1,m2⟩:=set4_at (.int .i64 3) (.slice wa (Wy.length+1) wc) (.int .i64 (com (rst c d) xp)) (.int .i64 d) (z0y (i:=0) (v:=.int .i64 3) (cs':=#[.int .i64 3,.slice wa (Wy.length+1) wc,.int .i64 (com (rst c d) xp),.int .i64 d]) hS6.sp rfl)
    have hf:=hS6.fin ((Mod.setCell (S:=(·=u+1)) (p:=⟨u+1,0,none⟩) (Mod.refl _ _) (.inl rfl) _).trans m2 (fun _ _ h=>h))
    simp only[Exit.jumps]
    obtain⟨fs,hus⟩:∃ fs,Tryz.prog.underlying 107=some (.struct fs):=⟨_,rfl⟩
    have hR:=fun tm hp=>z1v (P:=Tryz.prog) (fn:=Tryz.f30) (p:=6) (u:=7) (ty:=107) (by kernel_rfl) tm _ (u+1) _ _ _ _ hp m1 hus rfl (by kernel_rfl)
    refine bodyPost_ret (hR _ ?hp) ?hd ?post
    case hp=>rfl
    case hd=>rfl
    case post=>exact⟨wa,wc,by rw[List.length_append];rfl,by have:=hf.1;rw[List.length_append] at this ⊢;exact this,hf.2⟩
   ·rw[hfull] at HCM
    have HX:=hid hx
    have HREST:=hid hrest
    have HNI:=hid hNI
    have HMB:=hid hMB
    have r9:∀ w,(Instr.index 9 (.string (c.extract d c.size)) (.int .i64 xp.size)).run Tryz.prog w=.ok (.int .u8 (x.toNat:Int)) w:=fun w=>run_byte w _ (rst c d) xp.size x (by kernel_rfl) hx
    clear hfull hx hrest hNI hMB
    go_wp2_with (go_at_call 65;refine HCM.out.mono ?_;rintro e w5 ⟨rfl,hb5⟩;go_loud (have hS5:=HSN.out.keep hb5;have p2:=cell_of hS5.sp 2;have pf:=z0e hS5.sp;have hS6:=hS5.at_ (xp.size);have r0:=cell_of hS6.sp 0;have r1:=cell_of hS6.sp 1;have r2:=cell_of hS6.sp 2;have r3:=cell_of hS6.sp 3;have rf:=z0e hS6.sp;have n3:=cell_of hS6.nd 3;have HS6:=hid hS6;clear hS5 hS6))
    clear r0 r1 r2 r3 rf n3 p2 pf
    generalize w5.setCell ⟨u+1,2,none⟩ (.int .i64 xp.size)=W5 at *
    have hz5:u+1+1+1<W5.heap.size:=lt_of_block HS6.out.rf
    have hFD:∀ w1,Mod (·=u+1+1+1) W5 w1->Calls Tryz.prog 66 #[.agg #[.int .i64 k,.string ⟨#[]⟩,.string ⟨#[]⟩,.string xp,.slice ya yn yc,.slice za Lk.length zc],.int .u8 (x.toNat:Int)] w1 fun e w'=>e=.returned (.tuple #[.agg #[.int .i64 ((z0p Lk x.toNat).elim 0 Kd.s),.int .u32 ((z0p Lk x.toNat).elim 0 Kd.g)],.bool (z0p Lk x.toNat).isSome])/\Below w1.heap.size w1 w':=fun w1 hM=>by
     have hb:=hu ▸ z0x HS6.out.b hM (by omega) (by omega)
     obtain⟨_,_,_,_,g5,g6⟩:=HNQ.out.keep hb
     exact O.Find_at (x.toNat:Int) ⟨by omega,by have:=x.toNat_lt;omega⟩ g5 (HRM.out.keep hb) g6
    have HFD:=hid hFD
    clear hFD
    refine z0f 11 (Turn 9 (SkJ 36 (u+1+1+1) W5 #[.int .i64 r.1,.int .u32 r.2]) (SkJ 36 (u+1+1+1) W5 #[.int .i64 ((z0p Lk x.toNat).elim 0 Kd.s),.int .u32 ((z0p Lk x.toNat).elim 0 Kd.g)])) (by kernel_rfl) (by kernel_rfl) (by kernel_rfl) (Turn.start ⟨(Mod.refl _ _).drew,HS6.out.rf⟩) ?_
    dsimp only[List.take]
    iterate 9
     refine Seq.calm (a':=?_) (by decide) ?_ ?_ ?_
     rotate_left
     ·intro w1 hw1
      have hw1':=hw1
      have hM:=hw1.elim (·.m) (·.m)
      have hn:=(hM.block (u+1+1) (by omega) (by show ¬ _=_;omega)).trans HS6.out.nd
      have n0:=cell_of hn 0
      have n1:=cell_of hn 1
      have n2:=cell_of hn 2
      have n3:=cell_of hn 3
      have n4:=cell_of hn 4
      have n5:=cell_of hn 5
      have s2:=cell_of ((hM.block (u+1) (by omega) (by show ¬ _=_;omega)).trans HS6.out.sp) 2
      clear hM hw1 hn
      go_wp2_with (go_at_call 66;refine (HFD.out _ (hw1'.elim (·.m) (·.m))).mono ?_;rintro e w' ⟨rfl,hb⟩)
      first|(refine⟨?_,id,id⟩;exact rfl)|(refine⟨?_,fun h=>h.below hb,fun h=>h.below hb⟩;exact rfl)
     ·kernel_rfl
    refine Seq.turn (a':=?_) ?_ ?_ ?_
    rotate_left
    ·intro w1 hw1
     have hM:=hw1.m
     have hc:=hw1.c
     have q0:=cell_of hc 0
     have q1:=cell_of hc 1
     have qf:=z0e hc
     have HC1:=hid hc
     have HM:=hid hM
     clear hw1 hM hc
     go_wp2_with fail
     refine⟨?_,⟨HM.out.trans (O.mod_set2 _ _ _ _) (fun _ _ h=>h),O.set2_at HC1.out⟩⟩
     exact rfl
    ·kernel_rfl
    iterate 1
     refine Seq.calm (a':=?_) (by decide) ?_ ?_ ?_
     rotate_left
     ·intro w1 hw1
      have hw1':=hw1
      have hM:=hw1.elim (·.m) (·.m)
      have hn:=(hM.block (u+1+1) (by omega) (by show ¬ _=_;omega)).trans HS6.out.nd
      have n0:=cell_of hn 0
      have n1:=cell_of hn 1
      have n2:=cell_of hn 2
      have n3:=cell_of hn 3
      have n4:=cell_of hn 4
      have n5:=cell_of hn 5
      have s2:=cell_of ((hM.block (u+1) (by omega) (by show ¬ _=_;omega)).trans HS6.out.sp) 2
      clear hM hw1 hn
      go_wp2_with (go_at_call 66;refine (HFD.out _ (hw1'.elim (·.m) (·.m))).mono ?_;rintro e w' ⟨rfl,hb⟩)
      first|(refine⟨?_,id,id⟩;exact rfl)|(refine⟨?_,fun h=>h.below hb,fun h=>h.below hb⟩;exact rfl)
     ·kernel_rfl
    refine SeqI.nil ?_
    intro D w1 hD hI
    replace hI:=hI.done (hD 9 (by omega))
    clear hD
    dsimp only[List.drop]
    have hS7:=SkN.ref (r':=((z0p Lk x.toNat).elim 0 Kd.s,(z0p Lk x.toNat).elim 0 Kd.g)) HS6.out hI.m hI.c
    have HS7:=hid hS7
    clear hS7 hI
    rcases HREST.out with ⟨hf0,rfl⟩|⟨kk,hf1,hrec⟩
    ·rw[hf0] at HS7 ⊢
     go_wp2_with fail
     have hsp7:=HS7.out.sp
     have hwr:=wrap_u8 x
     refine z2i 9 (BJ u w1 (.slice wa (Wy.length+1) wc) xp.size d x.toNat (fun j=>([.string (c.extract d c.size),.pointer (some ⟨u+1,2,none⟩),.int .i64 xp.size,.int .u8 (x.toNat:Int),.int .i64 (x.toNat:Int),.pointer (some ⟨u+1,0,none⟩),undef,.pointer (some ⟨u+1,2,none⟩)]:List Value)[j]?.getD undef)) (by kernel_rfl) (by kernel_rfl) (by kernel_rfl) ?h0 ?hs ?hend
     case h0=>exact BJ.start hsp7
     case hs =>
      dsimp only[List.take,z1c,dsts,fill]
      refine⟨?_,?_,?_,?_,?_,?_,?_,?_,?_⟩
      ·intro D xs w1' hDk hwt hJ
       skip
       skip
       have HJ:=hid hJ
       have HW:=hid hwt
       clear hDk hwt hJ
       go_wp2_with fail
       refine⟨.string (c.extract d c.size),by kernel_rfl,?_⟩
       try (intro q h;obtain rfl:=h rfl)
       exact HJ.out.calm (by decide) (by decide) (fun _=>rfl) (fun e=>absurd e (by decide))
      ·intro D xs w1' hDk hwt hJ
       skip
       skip
       have HJ:=hid hJ
       have HW:=hid hwt
       clear hDk hwt hJ
       go_wp2_with fail
       refine⟨.pointer (some ⟨u+1,2,none⟩),by kernel_rfl,?_⟩
       try (intro q h;obtain rfl:=h rfl)
       exact HJ.out.calm (by decide) (by decide) (fun _=>rfl) (fun e=>absurd e (by decide))
      ·intro D xs w1' hDk hwt hJ
       rw[show xs 1=.pointer (some ⟨u+1,2,none⟩) from hJ.v 1 (hwt 1 (eM (by kernel_rfl))) (by decide)]
       have h8:D 8=false:=by
        cases e:D 8
        ·rfl
        ·have:=hJ.o (.inr (.inr e))
         rw[this] at hDk
         cases hDk
       have hcc:=hJ.c
       rw[h8] at hcc
       have q2:=cell_of hcc 2
       clear hcc h8
       have HJ:=hid hJ
       have HW:=hid hwt
       clear hDk hwt hJ
       go_wp2_with fail
       refine⟨.int .i64 xp.size,by kernel_rfl,?_⟩
       try (intro q h;obtain rfl:=h rfl)
       exact HJ.out.calm (by decide) (by decide) (fun _=>rfl) (fun e=>absurd e (by decide))
      ·intro D xs w1' hDk hwt hJ
       rw[show xs 0=.string (c.extract d c.size) from hJ.v 0 (hwt 0 (eM (by kernel_rfl))) (by decide)]
       rw[show xs 2=.int .i64 xp.size from hJ.v 2 (hwt 2 (eM (by kernel_rfl))) (by decide)]
       have HJ:=hid hJ
       have HW:=hid hwt
       clear hDk hwt hJ
       go_wp2_with fail
       refine⟨.int .u8 (x.toNat:Int),by kernel_rfl,?_⟩
       try (intro q h;obtain rfl:=h rfl)
       exact HJ.out.calm (by decide) (by decide) (fun _=>rfl) (fun _=>HW.out 2 (eM (by kernel_rfl)))
      ·intro D xs w1' hDk hwt hJ
       rw[show xs 3=.int .u8 (x.toNat:Int) from hJ.v 3 (hwt 3 (eM (by kernel_rfl))) (by decide)]
       skip
       have HJ:=hid hJ
       have HW:=hid hwt
       clear hDk hwt hJ
       go_wp2_with fail
       refine⟨.int .i64 (x.toNat:Int),by kernel_rfl,?_⟩
       try (intro q h;obtain rfl:=h rfl)
       exact HJ.out.calm (by decide) (by decide) (fun _=>rfl) (fun _=>HJ.out.o (.inl (HW.out 3 (eM (by kernel_rfl)))))
      ·intro D xs w1' hDk hwt hJ
       skip
       skip
       have HJ:=hid hJ
       have HW:=hid hwt
       clear hDk hwt hJ
       go_wp2_with fail
       refine⟨.pointer (some ⟨u+1,0,none⟩),by kernel_rfl,?_⟩
       try (intro q h;obtain rfl:=h rfl)
       exact HJ.out.calm (by decide) (by decide) (fun _=>rfl) (fun e=>absurd e (by decide))
      ·intro D xs w1' hDk hwt hJ
       rw[show xs 5=.pointer (some ⟨u+1,0,none⟩) from hJ.v 5 (hwt 5 (eM (by kernel_rfl))) (by decide)]
       have q0:=cell_of hJ.c 0
       have qf:=z0e hJ.c
       have HJ:=hid hJ
       clear hDk hwt hJ
       go_wp2_with fail
       exact⟨undef,by kernel_rfl,fun q _=>HJ.out.st6⟩
      ·intro D xs w1' hDk hwt hJ
       skip
       skip
       have HJ:=hid hJ
       have HW:=hid hwt
       clear hDk hwt hJ
       go_wp2_with fail
       refine⟨.pointer (some ⟨u+1,2,none⟩),by kernel_rfl,?_⟩
       try (intro q h;obtain rfl:=h rfl)
       exact HJ.out.calm (by decide) (by decide) (fun _=>rfl) (fun e=>absurd e (by decide))
      ·intro D xs w1' hDk hwt hJ
       have h2:D 2=true:=hJ.o (.inr (.inl (hwt 4 (eM (by kernel_rfl)))))
       rw[show xs 7=.pointer (some ⟨u+1,2,none⟩) from hJ.v 7 (hwt 7 (eM (by kernel_rfl))) (by decide)]
       rw[show xs 4=.int .i64 (x.toNat:Int) from hJ.v 4 (hwt 4 (eM (by kernel_rfl))) (by decide)]
       have q0:=cell_of hJ.c 2
       have qf:=z0e hJ.c
       have HJ:=hid hJ
       clear hDk hwt hJ
       go_wp2_with fail
       exact⟨undef,by kernel_rfl,fun q _=>HJ.out.st8 h2⟩
     case hend =>
      intro D xs w1' hD hJ
      have hc:=hJ.c
      rw[hD 6 (by omega),hD 8 (by omega)] at hc
      simp only[cond_true] at hc
      have hMJ:=hJ.m
      have s0:=cell_of hc 0
      have s1:=cell_of hc 1
      have s2:=cell_of hc 2
      have s3:=cell_of hc 3
      have sf:=z0e hc
      have HCM2:=hid (And.intro hc hMJ)
      clear hD hJ hMJ hc hsp7
      dsimp only[List.take,dsts,fill,List.drop]
      go_wp2_with fail
      obtain⟨hc2,hMJ2⟩:=HCM2.out
      obtain⟨m1,m2⟩:=set4_at (.int .i64 2) (.slice wa (Wy.length+1) wc) (.int .i64 x.toNat) (.int .i64 d) hc2
      have hf:=HS7.out.fin (hMJ2.trans m2 (fun _ _ h=>h))
      simp only[Exit.jumps]
      obtain⟨fs,hus⟩:∃ fs,Tryz.prog.underlying 107=some (.struct fs):=⟨_,rfl⟩
      have hR:=fun tm hp=>z1v (P:=Tryz.prog) (fn:=Tryz.f30) (p:=6) (u:=7) (ty:=107) (by kernel_rfl) tm _ (u+1) _ _ _ _ hp m1 hus rfl (by kernel_rfl)
      refine bodyPost_ret (hR _ ?hp) ?hd ?post
      case hp=>rfl
      case hd=>rfl
      case post=>exact⟨wa,wc,by rw[List.length_append];rfl,by have:=hf.1;rw[List.length_append] at this ⊢;exact this,hf.2⟩
    ·rw[hf1] at HS7 ⊢
     have s2:=cell_of HS7.out.sp 2
     have s3:=cell_of HS7.out.sp 3
     have sf:=z0e HS7.out.sp
     have hS8:=HS7.out.dep (d+xp.size+1)
     rw[show ((d+xp.size+1:Nat):Int)=(d:Int)+(xp.size+1) by omega] at hS8
     have HS8:=hid hS8
     have hlt:xp.size<c.size - d:=by
      have:=(List.getElem?_eq_some_iff.1 HX.out).1
      rwa [z1b,rst_size] at this
     clear hS8
     go_wp2_with fail
     go_step3
     refine .inl ⟨rfl,jump_self (F:=frD t u slot gen c) (by kernel_rfl) ⟨(kk.s,kk.g),d+xp.size+1,Wy++[r],HS8.out.skI,hrec,by rw[List.length_append];simp;omega⟩,?_⟩
     show c.size - dOf (u+1) _<c.size - dOf (u+1) W
     rw[HS8.out.dOf,hdep]
     omega
 case pass1 =>
  rintro a' W ⟨rest,f,rfl,⟨kn,cd,vl,xp,⟨ya,yn,yc⟩,⟨za,zn,zc⟩,xpl,xdi⟩,c',v1,r,d,Wy,hNd,hL,rfl,hd,hs⟩
  clear b0 b1 b2 b3 hB hL1 hpl1 HS
  unfold frL
  obtain⟨rfl,rfl,rfl,rfl,e5,e6⟩:=hNd
  cases e5
  cases e6
  simp only at hd hs
  obtain⟨⟨v,at_,hsp,how⟩,hnd,hb⟩:=hL
  obtain⟨wa,wc,rfl⟩:=O.own_form2 how
  rw[show (Wy++[r]).length=Wy.length+1 by simp] at hsp how
  have hcs:=HC.out.size
  have HCM:=hid (Go.Proofs.YtgdmfledhhoedaaGreatDoor.P.Common_at (a:=rst c d) (b:=rst cd d) W (by rw[rst_size];omega))
  have n1:=cell_of hnd 1
  have s3:=cell_of hsp 3
  have HSP:=hid hsp
  have HND:=hid hnd
  have HOW:=hid how
  have HBW:=hid hb
  clear hsp hnd how hb
  by_cases he:cd=c
  ·have e1:(cd.toList == c.toList)=true:=by rw[he];exact beq_self_eq_true _
   have w1:(if cd=c then 1 else 4)=1:=if_pos he
   have w2:(if cd=c then 0 else com (rst c d) (rst cd d))=0:=if_pos he
   rw[w1,w2] at hs
   subst hs
   clear he w1 w2
   go_wp2_with (go_at_call 65;refine HCM.out.mono ?_;rintro e w5 ⟨rfl,hb5⟩;go_loud (have hsp5:=(hb5.block _ (lt_of_block HSP.out)).trans HSP.out;have hnd5:=(hb5.block _ (lt_of_block HND.out)).trans HND.out;have q0:=cell_of hsp5 0;have q2:=cell_of hsp5 2;have q3:=cell_of hsp5 3;have qf:=z0e hsp5;have nc:=cell_of hnd5 1;have ha1:=z0y (i:=0) (v:=.int .i64 4) (cs':=#[.int .i64 4,.slice wa (Wy.length+1) wc,.int .i64 at_,.int .i64 d]) hsp5 rfl;have p2:=cell_of ha1 2;have ha2:=z0y (i:=2) (v:=.int .i64 (com (rst c d) (rst cd d))) (cs':=#[.int .i64 4,.slice wa (Wy.length+1) wc,.int .i64 (com (rst c d) (rst cd d)),.int .i64 d]) ha1 rfl;have r0:=cell_of ha2 0;have r1:=cell_of ha2 1;have r2:=cell_of ha2 2;have r3:=cell_of ha2 3;have rf:=z0e ha2;have ha3:=z0y (i:=0) (v:=.int .i64 1) (cs':=#[.int .i64 1,.slice wa (Wy.length+1) wc,.int .i64 (com (rst c d) (rst cd d)),.int .i64 d]) ha2 rfl;have t2:=cell_of ha3 2;have ha4:=z0y (i:=2) (v:=.int .i64 0) (cs':=#[.int .i64 1,.slice wa (Wy.length+1) wc,.int .i64 0,.int .i64 d]) ha3 rfl;have v0:=cell_of ha4 0;have v1:=cell_of ha4 1;have v2:=cell_of ha4 2;have v3:=cell_of ha4 3;have vf:=z0e ha4;have HA2:=hid ha2;have HA4:=hid ha4;have HOW5:=hid (O.z0h HOW.out (O.z0n (S:=fun _=>False) hb5) (fun _ _ h=>h));have HB5:=hid (HBW.out.trans (hb5.mono (by have:=lt_of_block HSP.out;omega)));have HZ5:=hid (lt_of_block hsp5);clear hsp5 hnd5 hb5 ha1 ha2 ha3 ha4))
   obtain⟨m1,m2⟩:=set4_at (.int .i64 1) (.slice wa (Wy.length+1) wc) (.int .i64 0) (.int .i64 d) (HA4.out)
   have hst:∀ {A:World} (j:Nat) (v:Value),Mod (·=u+1) w5 A->Mod (·=u+1) w5 (A.setCell ⟨u+1,j,none⟩ v):=fun j v h=>Mod.setCell (S:=(·=u+1)) (p:=⟨u+1,j,none⟩) h (.inl rfl) v
   have hmm:=(hst _ _ (hst _ _ (hst _ _ (hst _ _ (Mod.refl _ _))))).trans m2 (fun _ _ h=>h)
   have hf:_/\Below u w _:=⟨z2g (B':=u) (O.z0h HOW5.out hmm (fun k hk e=>by have:=(O.z2a HOW5.out hk).1;have:k=u+1:=e;omega)) (by omega),z0x HB5.out hmm (by omega) (by have:=HZ5.out;omega)⟩
   simp only[Exit.jumps]
   obtain⟨fs,hus⟩:∃ fs,Tryz.prog.underlying 107=some (.struct fs):=⟨_,rfl⟩
   have hR:=fun tm hp=>z1v (P:=Tryz.prog) (fn:=Tryz.f30) (p:=6) (u:=7) (ty:=107) (by kernel_rfl) tm _ (u+1) _ _ _ _ hp m1 hus rfl (by kernel_rfl)
   refine bodyPost_ret (hR _ ?hp) ?hd ?post
   case hp=>rfl
   case hd=>rfl
   case post=>exact⟨wa,wc,by rw[List.length_append];rfl,by have:=hf.1;rw[List.length_append];exact this,hf.2⟩
  ·have e1:(cd.toList == c.toList)=false:=beq_false_of_ne (fun e=>he (ba_inj e))
   have w1:(if cd=c then 1 else 4)=4:=if_neg he
   have w2:(if cd=c then 0 else com (rst c d) (rst cd d))=com (rst c d) (rst cd d):=if_neg he
   rw[w1,w2] at hs
   subst hs
   clear he w1 w2
   go_wp2_with (go_at_call 65;refine HCM.out.mono ?_;rintro e w5 ⟨rfl,hb5⟩;go_loud (have hsp5:=(hb5.block _ (lt_of_block HSP.out)).trans HSP.out;have hnd5:=(hb5.block _ (lt_of_block HND.out)).trans HND.out;have q0:=cell_of hsp5 0;have q2:=cell_of hsp5 2;have q3:=cell_of hsp5 3;have qf:=z0e hsp5;have nc:=cell_of hnd5 1;have ha1:=z0y (i:=0) (v:=.int .i64 4) (cs':=#[.int .i64 4,.slice wa (Wy.length+1) wc,.int .i64 at_,.int .i64 d]) hsp5 rfl;have p2:=cell_of ha1 2;have ha2:=z0y (i:=2) (v:=.int .i64 (com (rst c d) (rst cd d))) (cs':=#[.int .i64 4,.slice wa (Wy.length+1) wc,.int .i64 (com (rst c d) (rst cd d)),.int .i64 d]) ha1 rfl;have r0:=cell_of ha2 0;have r1:=cell_of ha2 1;have r2:=cell_of ha2 2;have r3:=cell_of ha2 3;have rf:=z0e ha2;have ha3:=z0y (i:=0) (v:=.int .i64 1) (cs':=#[.int .i64 1,.slice wa (Wy.length+1) wc,.int .i64 (com (rst c d) (rst cd d)),.int .i64 d]) ha2 rfl;have t2:=cell_of ha3 2;have ha4:=z0y (i:=2) (v:=.int .i64 0) (cs':=#[.int .i64 1,.slice wa (Wy.length+1) wc,.int .i64 0,.int .i64 d]) ha3 rfl;have v0:=cell_of ha4 0;have v1:=cell_of ha4 1;have v2:=cell_of ha4 2;have v3:=cell_of ha4 3;have vf:=z0e ha4;have HA2:=hid ha2;have HA4:=hid ha4;have HOW5:=hid (O.z0h HOW.out (O.z0n (S:=fun _=>False) hb5) (fun _ _ h=>h));have HB5:=hid (HBW.out.trans (hb5.mono (by have:=lt_of_block HSP.out;omega)));have HZ5:=hid (lt_of_block hsp5);clear hsp5 hnd5 hb5 ha1 ha2 ha3 ha4))
   obtain⟨m1,m2⟩:=set4_at (.int .i64 4) (.slice wa (Wy.length+1) wc) (.int .i64 (com (rst c d) (rst cd d))) (.int .i64 d) (HA2.out)
   have hst:∀ {A:World} (j:Nat) (v:Value),Mod (·=u+1) w5 A->Mod (·=u+1) w5 (A.setCell ⟨u+1,j,none⟩ v):=fun j v h=>Mod.setCell (S:=(·=u+1)) (p:=⟨u+1,j,none⟩) h (.inl rfl) v
   have hmm:=(hst _ _ (hst _ _ (Mod.refl _ _))).trans m2 (fun _ _ h=>h)
   have hf:_/\Below u w _:=⟨z2g (B':=u) (O.z0h HOW5.out hmm (fun k hk e=>by have:=(O.z2a HOW5.out hk).1;have:k=u+1:=e;omega)) (by omega),z0x HB5.out hmm (by omega) (by have:=HZ5.out;omega)⟩
   simp only[Exit.jumps]
   obtain⟨fs,hus⟩:∃ fs,Tryz.prog.underlying 107=some (.struct fs):=⟨_,rfl⟩
   have hR:=fun tm hp=>z1v (P:=Tryz.prog) (fn:=Tryz.f30) (p:=6) (u:=7) (ty:=107) (by kernel_rfl) tm _ (u+1) _ _ _ _ hp m1 hus rfl (by kernel_rfl)
   refine bodyPost_ret (hR _ ?hp) ?hd ?post
   case hp=>rfl
   case hd=>rfl
   case post=>exact⟨wa,wc,by rw[List.length_append];rfl,by have:=hf.1;rw[List.length_append];exact this,hf.2⟩
theorem SeekW.z1o {r:Int × Int} {s:SpotP} (h:SeekW P c r d W s):0<s.way.length:=by
 induction h with
 | leaf=>simp
 | split=>simp
 | bare=>simp
 | down _ _ _ _ _ _ _ ih=>exact ih
theorem SeekW.way_le {r:Int × Int} {s:SpotP} (h:SeekW P c r d W s):s.way.length+d<=W.length+c.size+1:=by
 induction h with
 | leaf _ _ h1 _=>simp;omega
 | split _ _ h1 _=>simp;omega
 | bare _ _ h1 _ _ _=>simp;omega
 | down _ _ _ _ _ _ _ ih=>simp at ih;omega
structure SpotAt (w:World) (b g wc:Nat) (s:SpotP):Prop where
 h:w.heap[b]?=some (.cells #[.int .i64 s.what,.slice (some ⟨g,0,none⟩) s.way.length wc,.int .i64 s.at_,.int .i64 s.depth] 107 (0,0))
 o:w.ownsRow 0 36 2 (.slice (some ⟨g,0,none⟩) s.way.length wc) s.way.length (z1z s.way)
 n:0<s.way.length
 m:s.way.length<=100
section
variable {w w':World} {b g wc:Nat} {s:SpotP}
theorem SpotAt.keep (h:SpotAt w b g wc s) (hb:Below w.heap.size w w'):SpotAt w' b g wc s:=⟨(hb.block _ (lt_of_block h.h)).trans h.h,O.own_same h.o hb,h.n,h.m⟩
theorem SpotAt.glt (h:SpotAt w b g wc s):g<w.heap.size:=(O.z2a h.o rfl).2
theorem SpotAt.ref (h:SpotAt w b g wc s) {j:Nat} {r:Int × Int} (hj:s.way[j]?=some r):w.cell? ⟨g,j * 2,none⟩=some (.int .i64 r.1)/\w.cell? ⟨g,j * 2+1,none⟩=some (.int .u32 r.2):=by
 obtain⟨g',e,_,hc⟩:=O.z0z h.o h.n
 cases e
 obtain⟨a,b⟩:=refsL_get hj
 exact⟨hc _ _ a,hc _ _ b⟩
set_option maxHeartbeats 1000000 in
theorem up_at {r:Int × Int} (h:SpotAt w b g wc s) (hk:k<s.way.length) (hr:s.way[s.way.length - 1 - k]?=some r) :
 Calls Tryz.prog 31 #[.pointer (some ⟨b,0,none⟩),.int .i64 k] w fun e w'=>e=.returned (.agg #[.int .i64 r.1,.int .u32 r.2])/\Below w.heap.size w w':=by
 have hB:Below w.heap.size w (w.alloc (.cells #[.int .i64 0,.int .u32 0] 36 (0,0))):=(Below.refl _ _).alloc (Nat.le_refl _) _
 have hbl0:=lt_of_block h.h
 have hgl0:=h.glt
 have h0:=z0a w (.cells #[.int .i64 0,.int .u32 0] 36 (0,0))
 have hm:=h.m
 have hz:=(h.keep hB).ref hr
 have hb:=(h.keep hB).h
 generalize hW:w.alloc (.cells #[.int .i64 0,.int .u32 0] 36 (0,0))=W at *
 generalize hu:w.heap.size=u at *
 have hbl:b<W.heap.size:=lt_of_block hb
 have hgl:g<W.heap.size:=by have:=hB.size;omega
 have HZ:=hid hz
 have HB:=hid hb
 have H0:=hid h0
 have HW:=hid hW
 have HU:=hid hu
 have HBL:=hid hB
 have e1:((s.way.length:Nat):Int) - 1 - (k:Int)=((s.way.length - 1 - k:Nat):Int):=by omega
 have hix:s.way.length - 1 - k<s.way.length:=by omega
 generalize s.way.length - 1 - k=ix at *
 clear h hz hb h0 hW hu hB hr hk
 go_enter Tryz.func31,Tryz.ntmps31
 go_wp2_with fail
 rw[HW.out,HU.out]
 refine z0f 15 (Turn 14 (SkJ 36 u W #[.int .i64 0,.int .u32 0]) (SkJ 36 u W #[.int .i64 r.1,.int .u32 r.2])) (by kernel_rfl) (by kernel_rfl) (by kernel_rfl) (Turn.start ⟨(Mod.refl _ _).drew,H0.out⟩) ?_
 dsimp only[List.take]
 iterate 14
  refine Seq.calm (a':=?_) (by decide) ?_ ?_ ?_
  rotate_left
  ·intro w1 hw1
   have hM:=hw1.elim (·.m) (·.m)
   have hb1:=hM.block b hbl (by show ¬ _=_;omega)
   have hg1:w1.heap[g]?=W.heap[g]?:=hM.block g hgl (by show ¬ _=_;omega)
   have q1:=cell_of (hb1.trans HB.out) 1
   have z0:=(World.cell?_of_block (w:=W) hg1).trans HZ.out.1
   have z1:=(World.cell?_of_block (w:=W) hg1).trans HZ.out.2
   clear hM hb1 hg1 hw1
   go_wp2_with (fail)
   refine⟨?_,id,id⟩;exact rfl
  ·kernel_rfl
 refine Seq.turn (a':=?_) ?_ ?_ ?_
 rotate_left
 ·intro w1 hw1
  have hM:=hw1.m
  have hc:=hw1.c
  have q0:=cell_of hc 0
  have qf:=z0e hc
  have r1:=cell_of hc 1
  have hb1:=hM.block b hbl (by show ¬ _=_;omega)
  have HC1:=hid hc
  have HM:=hid hM
  clear hw1 hM hc hb1
  go_wp2_with fail
  refine⟨?_,⟨HM.out.trans (O.mod_set2 _ _ _ _) (fun _ _ h=>h),O.set2_at HC1.out⟩⟩
  exact rfl
 ·kernel_rfl
 iterate 0
  refine Seq.calm (a':=?_) (by decide) ?_ ?_ ?_
  rotate_left
  ·intro w1 hw1
   have hM:=hw1.elim (·.m) (·.m)
   have hb1:=hM.block b hbl (by show ¬ _=_;omega)
   have hg1:w1.heap[g]?=W.heap[g]?:=hM.block g hgl (by show ¬ _=_;omega)
   have q1:=cell_of (hb1.trans HB.out) 1
   have z0:=(World.cell?_of_block (w:=W) hg1).trans HZ.out.1
   have z1:=(World.cell?_of_block (w:=W) hg1).trans HZ.out.2
   clear hM hb1 hg1 hw1
   go_wp2_with (fail)
   refine⟨?_,id,id⟩;exact rfl
  ·kernel_rfl
 refine SeqI.nil ?_
 intro D w1 hD hI
 replace hI:=hI.done (hD 14 (by omega))
 clear hD
 dsimp only[List.drop]
 have q0:=cell_of hI.c 0
 have q1:=cell_of hI.c 1
 have hM:=hI.m
 clear hI
 go_wp2_with fail
 refine bodyPost_ret (v:=(.agg #[.int .i64 r.1,.int .u32 r.2])) (by simp[results,Tryz.results31,go_sem,q0,q1]) rfl ⟨rfl,?_⟩
 exact z0x HBL.out hM (Nat.le_refl _) (by have:=HBL.out.size;have:=lt_of_block H0.out;omega)
end
end Go.Proofs.YtgdmfledhhoedaaGreatDoor.T
