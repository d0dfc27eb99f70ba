/- Part 18 of 27. -/
import Derived.Test.YtgdmfledhhoedaaGreatDoorD16
import Derived.Test.YtgdmfledhhoedaaGreatDoorD17
import Derived.Test.YtgdmfledhhoedaaGreatDoorD04
import Derived.Test.YtgdmfledhhoedaaGreatDoorD14
import Derived.Test.YtgdmfledhhoedaaGreatDoorD08
import Derived.Test.YtgdmfledhhoedaaGreatDoorD01
import Derived.Test.YtgdmfledhhoedaaGreatDoorD15
import Derived.Test.YtgdmfledhhoedaaGreatDoorD02
namespace Go.Burg
open Go Go.RowKit
theorem or_ne {D:Nat->Bool} {a b:Nat} (h:¬ a=b):(D a || a == b)=D a:=by simp[h]
structure NJ (S:Nat->Prop) (P0 P1:World->Prop) (F:Nat->World->Value->Prop) (W0:World) (T:TypeId) (z:Array Value) (o1:(Nat->Value)->Array Value) (os ls:List Nat) (iT iA iS:Nat) (fx fd:List Nat) (dl:Nat->List Nat) (tab:Nat->Value) (td:Nat->(Nat->Value)->Value) (D:Nat->Bool) (xs:Nat->Value) (w:World):Prop where
 m:Mod S W0 w
 p:cond (D iT) (P1 w) (P0 w)
 l:∀ j,j∈ls->D j=true->F j w (xs j)
 a:D iA=true->∃ u,W0.heap.size<=u/\xs iA=.pointer (some ⟨u,0,none⟩)/\w.heap[u]?=some (.cells (cond (D iS) (o1 xs) z) T (0,0))
 v:∀ j,D j=true->j∈fx->xs j=tab j
 e:∀ j,D j=true->j∈fd->(∀ k,k∈dl j->D k=true)/\xs j=td j xs
 s:D iS=true->D iA=true/\∀ k,k∈os->D k=true
structure NJOk (S:Nat->Prop) (P0 P1:World->Prop) (F:Nat->World->Value->Prop) (W0:World) (T:TypeId) (z:Array Value) (o1:(Nat->Value)->Array Value) (os:List Nat) (dl:Nat->List Nat) (td:Nat->(Nat->Value)->Value):Prop where
 b0:∀ w w',P0 w->Below w.heap.size w w'->P0 w'
 b1:∀ w w',P1 w->Below w.heap.size w w'->P1 w'
 bf:∀ j w w' v,F j w v->Below w.heap.size w w'->F j w' v
 s0:∀ w w' u,W0.heap.size<=u->w.heap[u]?=some (.cells z T (0,0))->Mod (·=u) w w'->P0 w->P0 w'
 s1:∀ w w' u,W0.heap.size<=u->w.heap[u]?=some (.cells z T (0,0))->Mod (·=u) w w'->P1 w->P1 w'
 sf:∀ j w w' u v,W0.heap.size<=u->w.heap[u]?=some (.cells z T (0,0))->Mod (·=u) w w'->F j w v->F j w' v
 tf:∀ j w w' v,Mod S w w'->F j w v->F j w' v
 lt:∀ k,S k->k<W0.heap.size
 c1:∀ xs ys:Nat->Value,(∀ k,k∈os->xs k=ys k)->o1 xs=o1 ys
 cd:∀ j (xs ys:Nat->Value),(∀ k,k∈dl j->xs k=ys k)->td j xs=td j ys
section
variable {S:Nat->Prop} {P0 P1:World->Prop} {F:Nat->World->Value->Prop} {W0 w w':World} {T:TypeId} {z:Array Value} {o1:(Nat->Value)->Array Value} {os ls:List Nat} {iT iA iS:Nat} {fx fd:List Nat} {dl:Nat->List Nat} {tab:Nat->Value} {td:Nat->(Nat->Value)->Value} {D:Nat->Bool} {xs:Nat->Value}
theorem NJ.start (h:P0 W0.drew):NJ S P0 P1 F W0 T z o1 os ls iT iA iS fx fd dl tab td (fun _=>false) (fun _=>undef) W0.drew :=
 ⟨(Mod.refl _ _).drew,h,fun _ _ h=>(by cases h),fun h=>(by cases h),fun j h=>(by cases h),fun j h=>(by cases h),fun h=>(by cases h)⟩
theorem NJ.step (hk:NJOk S P0 P1 F W0 T z o1 os dl td) (h:NJ S P0 P1 F W0 T z o1 os ls iT iA iS fx fd dl tab td D xs w) {i:Nat} {u:Value} (hD:D i=false) (hm:Mod S W0 w') (hp:cond (D iT || iT == i) (P1 w') (P0 w')) (lk:∀ j,j∈ls->D j=true->F j w' (xs j)) (ln:i∈ls->F i w' u)
 (ak:∀ b,D iA=true->W0.heap.size<=b->xs iA=.pointer (some ⟨b,0,none⟩)->w.heap[b]?=some (.cells (cond (D iS) (o1 xs) z) T (0,0))->w'.heap[b]?=some (.cells (cond (D iS || iS == i) (o1 xs) z) T (0,0)))
 (an:i=iA->∃ b,W0.heap.size<=b/\u=.pointer (some ⟨b,0,none⟩)/\w'.heap[b]?=some (.cells z T (0,0))) (_hAS:iA≠iS) (vn:i∈fx->u=tab i) (en:i∈fd->(∀ k,k∈dl i->D k=true)/\u=td i xs) (sn:i=iS->D iA=true/\∀ k,k∈os->D k=true) :
 NJ S P0 P1 F W0 T z o1 os ls iT iA iS fx fd dl tab td (fun j=>D j || j == i) (fun j=>if j=i then u else xs j) w':=by
 have old:∀ k,D k=true->(if k=i then u else xs k)=xs k:=fun k hk=>if_neg (fun e=>by subst e;rw[hD] at hk;cases hk)
 have up:∀ k,D k=true->(D k || k == i)=true:=fun k hk=>by rw[hk];rfl
 have so:(D iS || iS == i)=true->D iA=true/\∀ k,k∈os->D k=true:=fun e=>by
  simp only[Bool.or_eq_true,beq_iff_eq] at e
  rcases e with e|e
  ·exact h.s e
  ·exact sn e.symm
 refine⟨hm,hp,fun j hj hd=>?_,fun e=>?_,fun j hj hr=>?_,fun j hj hr=>?_,fun e=>?_⟩
 ·by_cases e:j=i
  ·subst e;simp only[if_pos];exact ln hj
  ·have hd':D j=true:=by simpa[e] using hd
   simp only[if_neg e];exact lk j hj hd'
 ·have ec:cond (D iS || iS == i) (o1 (fun j=>if j=i then u else xs j)) z=cond (D iS || iS == i) (o1 xs) z:=by
   cases hs:(D iS || iS == i)
   ·rfl
   ·exact hk.c1 _ _ (fun k hk=>old k ((so hs).2 k hk))
  simp only[ec]
  by_cases ei:iA=i
  ·subst ei
   obtain⟨b,q1,q2,q3⟩:=an rfl
   have es:(D iS || iS == iA)=false:=by
    cases hs:(D iS || iS == iA)
    ·rfl
    ·rw[(so hs).1] at hD;cases hD
   simp only[if_pos,es,cond_false]
   exact⟨b,q1,q2,q3⟩
  ·have hA:D iA=true:=by simpa[ei] using e
   obtain⟨b,q1,q2,q3⟩:=h.a hA
   simp only[if_neg ei]
   exact⟨b,q1,q2,ak b hA q1 q2 q3⟩
 ·by_cases e:j=i
  ·subst e;simp only[if_pos];exact vn hr
  ·simp only[if_neg e];exact h.v j (by simpa[e] using hj) hr
 ·by_cases e:j=i
  ·subst e
   obtain⟨a,b⟩:=en hr
   simp only[if_pos]
   exact⟨fun k hk=>up k (a k hk),b.trans (hk.cd _ _ _ (fun k hk=>(old k (a k hk)).symm))⟩
  ·obtain⟨a,b⟩:=h.e j (by simpa[e] using hj) hr
   simp only[if_neg e]
   exact⟨fun k hk=>up k (a k hk),b.trans (hk.cd _ _ _ (fun k hk=>(old k (a k hk)).symm))⟩
 ·obtain⟨a,b⟩:=so e
  exact⟨up _ a,fun k hk=>up k (b k hk)⟩
theorem NJ.pk (hk:NJOk S P0 P1 F W0 T z o1 os dl td) (h:NJ S P0 P1 F W0 T z o1 os ls iT iA iS fx fd dl tab td D xs w) {i:Nat} (h2:i≠iT) (hb:Below w.heap.size w w'):cond (D iT || iT == i) (P1 w') (P0 w'):=by
 have e2:(D iT || iT == i)=D iT:=or_ne (fun e=>h2 e.symm)
 rw[e2]
 have:=h.p
 cases hd:D iT<;>rw[hd] at this
 ·exact hk.b0 _ _ this hb
 ·exact hk.b1 _ _ this hb
theorem NJ.calm (hk:NJOk S P0 P1 F W0 T z o1 os dl td) (h:NJ S P0 P1 F W0 T z o1 os ls iT iA iS fx fd dl tab td D xs w) {i:Nat} {u:Value} (hD:D i=false) (hb:Below w.heap.size w w') (hAS:iA≠iS:=by decide) (h1:i ∉ ls:=by decide) (h2:i≠iT:=by decide) (h3:i≠iA:=by decide) (h4:i≠iS:=by decide) (h5:i ∉ fd:=by decide) (hu:i∈fx->u=tab i:=by intro h;cases h):NJ S P0 P1 F W0 T z o1 os ls iT iA iS fx fd dl tab td (fun j=>D j || j == i) (fun j=>if j=i then u else xs j) w':=by
 have e4:(D iS || iS == i)=D iS:=or_ne (fun e=>h4 e.symm)
 refine NJ.step hk h hD (h.m.trans (z1e hb) (fun _ _ e=>e)) (NJ.pk hk h h2 hb) (fun j hj hd=>hk.bf _ _ _ _ (h.l j hj hd) hb) (fun e=>absurd e h1) (fun b hA q1 q2 q3=>?_) (fun e=>absurd e h3) hAS hu (fun e=>absurd e h5) (fun e=>absurd e h4)
 rw[e4]
 exact (hb.block b (lt_of_block q3)).trans q3
theorem NJ.dep (hk:NJOk S P0 P1 F W0 T z o1 os dl td) (h:NJ S P0 P1 F W0 T z o1 os ls iT iA iS fx fd dl tab td D xs w) {i:Nat} {u:Value} (hD:D i=false) (hd:∀ k,k∈dl i->D k=true) (hu:u=td i xs) (hb:Below w.heap.size w w') (hAS:iA≠iS:=by decide) (h1:i ∉ ls:=by decide) (h2:i≠iT:=by decide) (h3:i≠iA:=by decide) (h4:i≠iS:=by decide) (h5:i ∉ fx:=by decide):NJ S P0 P1 F W0 T z o1 os ls iT iA iS fx fd dl tab td (fun j=>D j || j == i) (fun j=>if j=i then u else xs j) w':=by
 have e4:(D iS || iS == i)=D iS:=or_ne (fun e=>h4 e.symm)
 refine NJ.step hk h hD (h.m.trans (z1e hb) (fun _ _ e=>e)) (NJ.pk hk h h2 hb) (fun j hj hd=>hk.bf _ _ _ _ (h.l j hj hd) hb) (fun e=>absurd e h1) (fun b hA q1 q2 q3=>?_) (fun e=>absurd e h3) hAS (fun e=>absurd e h5) (fun _=>⟨hd,hu⟩) (fun e=>absurd e h4)
 rw[e4]
 exact (hb.block b (lt_of_block q3)).trans q3
theorem NJ.call (hk:NJOk S P0 P1 F W0 T z o1 os dl td) (h:NJ S P0 P1 F W0 T z o1 os ls iT iA iS fx fd dl tab td D xs w) {i:Nat} {u:Value} (hD:D i=false) (hu:F i w' u) (hb:Below w.heap.size w w') (hAS:iA≠iS:=by decide) (h2:i≠iT:=by decide) (h3:i≠iA:=by decide) (h4:i≠iS:=by decide) (h5:i ∉ fd:=by decide) (h6:i ∉ fx:=by decide):NJ S P0 P1 F W0 T z o1 os ls iT iA iS fx fd dl tab td (fun j=>D j || j == i) (fun j=>if j=i then u else xs j) w':=by
 have e4:(D iS || iS == i)=D iS:=or_ne (fun e=>h4 e.symm)
 refine NJ.step hk h hD (h.m.trans (z1e hb) (fun _ _ e=>e)) (NJ.pk hk h h2 hb) (fun j hj hd=>hk.bf _ _ _ _ (h.l j hj hd) hb) (fun _=>hu) (fun b hA q1 q2 q3=>?_) (fun e=>absurd e h3) hAS (fun e=>absurd e h6) (fun e=>absurd e h5) (fun e=>absurd e h4)
 rw[e4]
 exact (hb.block b (lt_of_block q3)).trans q3
theorem NJ.turn (hk:NJOk S P0 P1 F W0 T z o1 os dl td) (h:NJ S P0 P1 F W0 T z o1 os ls iT iA iS fx fd dl tab td D xs w) {u:Value} (hD:D iT=false) (hp:P1 w') (hm:Mod S w w') (hAS:iA≠iS:=by decide) (h1:iT ∉ ls:=by decide) (h3:iT≠iA:=by decide) (h4:iT≠iS:=by decide) (h5:iT ∉ fd:=by decide) (hu:iT∈fx->u=tab iT:=by intro h;cases h):NJ S P0 P1 F W0 T z o1 os ls iT iA iS fx fd dl tab td (fun j=>D j || j == iT) (fun j=>if j=iT then u else xs j) w':=by
 have e4:(D iS || iS == iT)=D iS:=or_ne (fun e=>h4 e.symm)
 refine NJ.step hk h hD (h.m.trans hm (fun _ _ e=>e)) (by simp;exact hp) (fun j hj hd=>hk.tf _ _ _ _ hm (h.l j hj hd)) (fun e=>absurd e h1) (fun b hA q1 q2 q3=>?_) (fun e=>absurd e h3) hAS hu (fun e=>absurd e h5) (fun e=>absurd e h4)
 rw[e4]
 exact (hm.block b (lt_of_block q3) (fun hs=>by have:=hk.lt b hs;omega)).trans q3
theorem NJ.turnF (hk:NJOk S P0 P1 F W0 T z o1 os dl td) (h:NJ S P0 P1 F W0 T z o1 os ls iT iA iS fx fd dl tab td D xs w) {u:Value} (hD:D iT=false) (hu:F iT w' u) (hp:P1 w') (hm:Mod S w w') (hAS:iA≠iS:=by decide) (h1:iT ∉ fx:=by decide) (h3:iT≠iA:=by decide) (h4:iT≠iS:=by decide) (h5:iT ∉ fd:=by decide):NJ S P0 P1 F W0 T z o1 os ls iT iA iS fx fd dl tab td (fun j=>D j || j == iT) (fun j=>if j=iT then u else xs j) w':=by
 have e4:(D iS || iS == iT)=D iS:=or_ne (fun e=>h4 e.symm)
 refine NJ.step hk h hD (h.m.trans hm (fun _ _ e=>e)) (by simp;exact hp) (fun j hj hd=>hk.tf _ _ _ _ hm (h.l j hj hd)) (fun _=>hu) (fun b hA q1 q2 q3=>?_) (fun e=>absurd e h3) hAS (fun e=>absurd e h1) (fun e=>absurd e h5) (fun e=>absurd e h4)
 rw[e4]
 exact (hm.block b (lt_of_block q3) (fun hs=>by have:=hk.lt b hs;omega)).trans q3
theorem NJ.alloc (hk:NJOk S P0 P1 F W0 T z o1 os dl td) (h:NJ S P0 P1 F W0 T z o1 os ls iT iA iS fx fd dl tab td D xs w) (hD:D iA=false) (hAS:iA≠iS:=by decide) (h1:iA ∉ ls:=by decide) (h2:iA≠iT:=by decide) (h5:iA ∉ fd:=by decide) (h6:iA ∉ fx:=by decide):NJ S P0 P1 F W0 T z o1 os ls iT iA iS fx fd dl tab td (fun j=>D j || j == iA) (fun j=>if j=iA then .pointer (some ⟨w.heap.size,0,none⟩) else xs j) (w.alloc (.cells z T (0,0))):=by
 have hb:Below w.heap.size w (w.alloc (.cells z T (0,0))):=(Below.refl _ _).alloc (Nat.le_refl _) _
 exact NJ.step hk h hD (h.m.trans (z1e hb) (fun _ _ e=>e)) (NJ.pk hk h h2 hb) (fun j hj hd=>hk.bf _ _ _ _ (h.l j hj hd) hb) (fun e=>absurd e h1) (fun b hA=>by rw[hA] at hD;cases hD) (fun _=>⟨w.heap.size,h.m.size,rfl,z0a _ _⟩) hAS (fun e=>absurd e h6) (fun e=>absurd e h5) (fun e=>absurd e hAS)
theorem NJ.store (hk:NJOk S P0 P1 F W0 T z o1 os dl td) (h:NJ S P0 P1 F W0 T z o1 os ls iT iA iS fx fd dl tab td D xs w) {u:Value} {b:Nat} (hD:D iS=false) (hA:D iA=true) (ho:∀ k,k∈os->D k=true) (hx:xs iA=.pointer (some ⟨b,0,none⟩)) (hm:Mod (·=b) w w') (hc:w'.heap[b]?=some (.cells (o1 xs) T (0,0))) (hAS:iA≠iS:=by decide) (h1:iS ∉ ls:=by decide) (h2:iS≠iT:=by decide) (h5:iS ∉ fd:=by decide) (h6:iS ∉ fx:=by decide):NJ S P0 P1 F W0 T z o1 os ls iT iA iS fx fd dl tab td (fun j=>D j || j == iS) (fun j=>if j=iS then u else xs j) w':=by
 obtain⟨b',q1,q2,q3⟩:=h.a hA
 obtain rfl:b=b':=by rw[hx] at q2;injection q2 with q2;injection q2 with q2;injection q2
 rw[hD] at q3
 simp only[cond_false] at q3
 have e2:(D iT || iT == iS)=D iT:=or_ne (fun e=>h2 e.symm)
 refine NJ.step hk h hD (h.m.trans hm (fun i hi e=>by have:i=b:=e;omega)) ?_ (fun j hj hd=>hk.sf _ _ _ _ _ q1 q3 hm (h.l j hj hd)) (fun e=>absurd e h1) (fun b' _ _ r2 _=>?_) (fun e=>absurd e.symm hAS) hAS (fun e=>absurd e h6) (fun e=>absurd e h5) (fun _=>⟨hA,ho⟩)
 ·rw[e2]
  have:=h.p
  cases hd:D iT<;>rw[hd] at this
  ·exact hk.s0 _ _ _ q1 q3 hm this
  ·exact hk.s1 _ _ _ q1 q3 hm this
 ·obtain rfl:b=b':=by rw[hx] at r2;injection r2 with r2;injection r2 with r2;injection r2
  simp only[beq_self_eq_true,Bool.or_true,cond_true]
  exact hc
end
theorem NJOk.calm {W0:World} {T:TypeId} {z:Array Value} {o:Array Value} {dl:Nat->List Nat}:NJOk (fun _=>False) (fun _=>True) (fun _=>True) (fun _ _ _=>True) W0 T z (fun _=>o) [] dl (fun _ _=>undef) :=
 ⟨fun _ _ _ _=>trivial,fun _ _ _ _=>trivial,fun _ _ _ _ _ _=>trivial,fun _ _ _ _ _ _ _=>trivial,fun _ _ _ _ _ _ _=>trivial,fun _ _ _ _ _ _ _ _ _=>trivial,fun _ _ _ _ _ _=>trivial,fun _ h=>h.elim,fun _ _ _=>rfl,fun _ _ _ _=>rfl⟩
end Go.Burg
namespace Go.Proofs.YtgdmfledhhoedaaGreatDoor.T
set_option maxRecDepth 8000
open Go.ChangeShapes Go.WideShapes Go.ChangeAt Go.RowKit Go.Burg
open Go.Burg.Lk
theorem set6_mod {T:TypeId} {w:World} {c:Nat} {a0 a1 a2 a3 a4 a5:Value} (b0 b1 b2 b3 b4 b5:Value) (h:w.heap[c]?=some (.cells #[a0,a1,a2,a3,a4,a5] T (0,0))) :
 ((((((w.setCell ⟨c,0,none⟩ b0).setCell ⟨c,1,none⟩ b1).setCell ⟨c,2,none⟩ b2).setCell ⟨c,3,none⟩ b3).setCell ⟨c,4,none⟩ b4).setCell ⟨c,5,none⟩ b5).heap[c]?=some (.cells #[b0,b1,b2,b3,b4,b5] T (0,0))/\Mod (·=c) w ((((((w.setCell ⟨c,0,none⟩ b0).setCell ⟨c,1,none⟩ b1).setCell ⟨c,2,none⟩ b2).setCell ⟨c,3,none⟩ b3).setCell ⟨c,4,none⟩ b4).setCell ⟨c,5,none⟩ b5):=by
 refine⟨?_,?_⟩
 ·have:=heap_set (i:=5) (v:=b5) (heap_set (i:=4) (v:=b4) (heap_set (i:=3) (v:=b3) (heap_set (i:=2) (v:=b2) (heap_set (i:=1) (v:=b1) (heap_set (i:=0) (v:=b0) h)))))
  simpa using this
 have stp:∀ {A:World} (j:Nat) (v:Value),Mod (·=c) w A->Mod (·=c) w (A.setCell ⟨c,j,none⟩ v):=fun j v h=>Mod.setCell (S:=(·=c)) (p:=⟨c,j,none⟩) h (.inl rfl) v
 exact stp _ _ (stp _ _ (stp _ _ (stp _ _ (stp _ _ (stp _ _ (Mod.refl _ _))))))
end Go.Proofs.YtgdmfledhhoedaaGreatDoor.T
namespace Go.Burg
open Go Go.RowKit
end Go.Burg
namespace Go.Proofs.YtgdmfledhhoedaaGreatDoor.O
set_option maxRecDepth 8000
open Go.ChangeShapes Go.WideShapes Go.ChangeAt Go.RowKit Go.Burg
end Go.Proofs.YtgdmfledhhoedaaGreatDoor.O
namespace Go.Proofs.YtgdmfledhhoedaaGreatDoor.T
set_option maxRecDepth 8000
open Go.ChangeShapes Go.WideShapes Go.ChangeAt Go.RowKit Go.Burg
open Go.Burg.Lk
variable {P P2:List (Cel PNd)} {i ir j kb km sb sg t:Nat} {q qr:PNd}
theorem z0l.set_any {s g s' g':Int} {i':Nat} {q':PNd} (h:z0l P s g i q) (h':z0l P s' g' i' q') (x:PNd):∃ j y,z0l (P.set i' ⟨true,x,g'⟩) s g j y:=by
 obtain⟨e,p,h1,h2,h3,h4⟩:=h
 obtain⟨e',p',h1',h2',h3',h4'⟩:=h'
 by_cases hi:i'=i
 ·subst hi
  rw[h1] at h1'
  cases h1'
  exact⟨i',x,e,_,List.getElem?_set_self (List.getElem?_eq_some_iff.1 h1).1,rfl,h3'.symm.trans h3,rfl⟩
 ·exact⟨i,q,e,p,by rw[List.getElem?_set_ne hi];exact h1,h2,h3,h4⟩
theorem Rel.z1j {w:World} {l:List (Cel Nd)} {P:List (Cel PNd)} (h:Rel w l P):z1j l=z1j P:=by
 have key:∀ (l:List (Cel Nd)) (P:List (Cel PNd)),l.length=P.length->(∀ (i:Nat) (c:Cel Nd),l[i]?=some c->∃ p:Cel PNd,P[i]?=some p/\p.is=c.is/\p.gen=c.gen)->(l.filter Cel.room).length=(P.filter Cel.room).length:=by
  intro l
  induction l with
  | nil=>intro P hl _;cases P with
   | nil=>rfl
   | cons p P=>simp at hl
  | cons c l ih =>
   intro P hl hp
   cases P with
   | nil=>simp at hl
   | cons p P =>
    obtain⟨p',e,h1,h2⟩:=hp 0 c rfl
    simp at e
    subst e
    have hr:c.room=p.room:=by unfold Cel.room;rw[h1,h2]
    have:=ih P (by simpa using hl) (fun i c' hc'=>hp (i+1) c' (by simpa using hc'))
    cases hb:p.room<;>simp[List.filter_cons,hr,hb,this]
 exact key l P h.len (fun i c hc=>by obtain⟨p,h1,h2,h3,_⟩:=h.at_ i c hc;exact⟨p,h1,h2,h3⟩)
variable {c v:ByteArray} {pj:Cel PNd} {gen slot tk:Int} {l:List (Cel Nd)} {L L2:List (RefK × Wd)}
set_option maxRecDepth 20000 in
set_option maxHeartbeats 8000000 in
theorem Put_fork3 {s:SpotP} {r:Int × Int} (w:World) (h:TreeAt w t sb sg kb km l L tk) (hR:Rel w l P) (hr:RoomsAt w) (hc:z2l c) (hv:v.size<=32) (hq:z0l P slot gen i q) (hp:q.planted=true) (hs:SeekW P c (slot,gen) 0 [] s) (hw:s.what=3)
 (h2:2<=s.way.length) (hrl:s.way[s.way.length - 1]?=some r) (hqr:z0l P r.1 r.2 ir qr) (hF:z2s P (j:Int)) (hj:P[j]?=some pj) (hjr:pj.room=true) (hrm:2<=z1j P) (h0:¬ TOwn sg km 0) (rr:RefK) (hr1:rr.1.1=j) (hr2:rr.1.2=pj.gen+1)
 (hfk:∀ W b g wc,z0s W t sb sg kb km (P.set j ⟨true,⟨.leaf c v,false,false⟩,pj.gen+1⟩) (K.addL L rr).2 tk->RoomsAt W->SpotAt W b g wc s->¬ TOwn sg km b/\¬ TOwn sg km g->Calls Tryz.prog 35 #[.pointer (some ⟨t,0,none⟩),.pointer (some ⟨b,0,none⟩),.string c,.agg #[.int .i64 j,.int .u32 (pj.gen+1)]] W fun e w'=>e=.returned (.tuple #[])/\z0s w' t sb sg kb km P2 L2 tk/\Mod (TOwn sg km) W w') :
 Calls Tryz.prog 8 #[.pointer (some ⟨t,0,none⟩),.agg #[.int .i64 slot,.int .u32 gen],.string c,.string v] w fun e w'=>e=.returned (.tuple #[.slice none 0 0,.int .i64 0])/\z0s w' t sb sg kb km P2 L2 tk/\Mod (TOwn sg km) w w':=by
 have hB0:Below w.heap.size w (w.alloc (.cells #[.int .i64 slot,.int .u32 gen] 36 (0,0))):=(Below.refl _ _).alloc (Nat.le_refl _) _
 have HPL:=hid (Plan_put3 (w.alloc (.cells #[.int .i64 slot,.int .u32 gen] 36 (0,0))) (h.keep hB0) (hR.keep hB0) (hr.keep hB0) hc hq hp hs hw 2 [] 2 (fun w1 b g wc hb1 hsa hwc=>(split_at hsa h2 hwc).mono (fun e w' h=>⟨none,0,h.1,World.ownsRow_nil _ _ _ _,h.2⟩)))
 have HQR:=hid hqr
 have HFK:=hid hfk
 have H0:=hid h0
 have HF:=hid (And.intro hF (And.intro hj (And.intro hjr (And.intro hr1 hr2))))
 clear hqr hfk h0 hF hj hjr hr1 hr2 hB0
 have b0:=z0a w (.cells #[.int .i64 slot,.int .u32 gen] 36 (0,0))
 have hB:Below w.heap.size w (w.alloc (.cells #[.int .i64 slot,.int .u32 gen] 36 (0,0))):=(Below.refl _ _).alloc (Nat.le_refl _) _
 have dv:decide ((v.size:Int) > 32)=false:=by simp;omega
 have HWM:Hid (s.way.length<=100):=hid (by have h1:=SeekW.way_le hs;have h2:=hc.size;simp only[List.length_nil] at h1;omega)
 have HSKA:=hid (fun w1 (hb:Below w.heap.size w w1)=>Seek_at w1 (h.keep hb) (hR.keep hb) (hr.keep hb) hc hq hp hs)
 have hrml:z1j l=z1j P:=hR.z1j
 have HLT:=hid (And.intro (lt_of_block h.ht) (And.intro h.hs.blt (And.intro h.hs.glt h.hk.lt)))
 have HT:=hid h
 have HR:=hid hR
 have HRM:=hid hr
 have HWH:=hid hw
 have HS:=hid hs
 have HRL:=hid hrl
 have HTP:Hid (z0s w t sb sg kb km P L tk):=hid ⟨l,h,hR⟩
 have d6:decide (((z1j l:Nat):Int)<2)=false:=by rw[hrml];simp;omega
 clear hrml hR hr hc hq hp hs hw hrl h
 go_enter Tryz.func8,Tryz.ntmps8
 go_wp2_with ((go_at_call 28;refine HPL.out.mono ?_;rintro e w2 ⟨g,wc,da,dc,rfl,how,hod,hb2⟩;unfold z2k;go_loud (have h0:=(hb2.block _ (lt_of_block b0)).trans b0;have hc2:=z0a w2 (.cells #[(.slice (some ⟨g,(s.way.length - 2) * 2,none⟩) 2 (wc - (s.way.length - 2))),.slice da 0 dc,.int .i64 2] 90 (0,0));have hbc:Below w2.heap.size w2 (w2.alloc (.cells #[(.slice (some ⟨g,(s.way.length - 2) * 2,none⟩) 2 (wc - (s.way.length - 2))),.slice da 0 dc,.int .i64 2] 90 (0,0))):=(Below.refl _ _).alloc (Nat.le_refl _) _;have hbw2:=hB.trans (hb2.mono hB.size);have HB2:=hid (hbw2.trans (hbc.mono hbw2.size));have HC2:=hid hc2;have H02:=hid ((hbc.block _ (lt_of_block h0)).trans h0);have HV0:=hid (show w.heap.size<=w2.heap.size from hbw2.size);clear h0 hc2 hbc hbw2 how hod hb2)))
 generalize hWA:w2.alloc (.cells #[(.slice (some ⟨g,(s.way.length - 2) * 2,none⟩) 2 (wc - (s.way.length - 2))),.slice da 0 dc,.int .i64 2] 90 (0,0))=WA at *
 generalize w2.heap.size=vb at *
 have HTA:=hid (HT.out.keep HB2.out)
 clear hWA
 refine z0g 10 (fun w1=>Below (WA).heap.size (WA) w1) (by kernel_rfl) (by kernel_rfl) (by kernel_rfl) ⟨rfl,rfl,rfl,Nat.le_refl _,fun _ _=>rfl⟩ ?_
 dsimp only[List.take]
 iterate 10
  refine Seq.cons (a':=?_) ?_ ?_ ?_
  rotate_left
  ·intro w1 hw1
   have t0:=cell_of (HTA.out.keep hw1).ht 0;have c2:=cell_of (z0b HC2.out hw1 (lt_of_block HC2.out)) 2
   go_wp2_with (go_at_call 29;refine (S.left_any _ (HTA.out.keep hw1).hs).mono ?_;rintro e w' ⟨rfl,hb⟩)
   refine⟨?_,by first|assumption|(simpa using z0d hw1 hb hw1.size)⟩
   exact rfl
  ·kernel_rfl
 refine SeqI.nil ?_
 intro _ w1 _ hw1
 dsimp only[List.drop]
 have hbw:=HB2.out.trans (hw1.mono HB2.out.size)
 have h02:=z0b H02.out hw1 (lt_of_block H02.out)
 have a0:=cell_of h02 0
 have a1:=cell_of h02 1
 have HSK:=hid (HSKA.out _ hbw)
 have HBW:=hid hbw
 clear hw1 h02 hbw HPL H02 HC2 HB2 HTA
 go_wp2_with (first|(go_at_call 30;refine HSK.out.mono ?_;rintro e w4 ⟨wa,wc4,rfl,how,hb4⟩;rw[HWH.out];go_loud (obtain⟨g4,rfl,lg,_⟩:=O.z0z (z2g how (Nat.zero_le _)) (SeekW.z1o HS.out);have hg4:=(show _<=g4 from (O.z2a how rfl).1);have hsp4:=z0a w4 (.cells #[.int .i64 3,.slice (some ⟨g4,0,none⟩) s.way.length wc4,.int .i64 s.at_,.int .i64 s.depth] 107 (0,0));have hbs:Below w4.heap.size w4 (w4.alloc (.cells #[.int .i64 3,.slice (some ⟨g4,0,none⟩) s.way.length wc4,.int .i64 s.at_,.int .i64 s.depth] 107 (0,0))):=(Below.refl _ _).alloc (Nat.le_refl _) _;have hSA:SpotAt (w4.alloc (.cells #[.int .i64 3,.slice (some ⟨g4,0,none⟩) s.way.length wc4,.int .i64 s.at_,.int .i64 s.depth] 107 (0,0))) w4.heap.size g4 wc4 s:=⟨(by rw[HWH.out];exact hsp4),z2g (O.z0h how (O.z0n (S:=fun _=>False) hbs) (fun _ _ h=>h)) (Nat.zero_le _),SeekW.z1o HS.out,HWM.out⟩;have HUP:=hid (up_at (k:=0) hSA (SeekW.z1o HS.out) (by simpa using HRL.out));have hb14:=hb4.trans (hbs.mono hb4.size);have HB4:=hid (HBW.out.trans (hb14.mono HBW.out.size));have HSA:=hid hSA;have HG4:=hid (show w.heap.size<=g4 by have:=HBW.out.size;omega);have HL4:=hid (show w.heap.size<=w4.heap.size by have:=HBW.out.size;have:=hb4.size;omega);clear how hb4 lg hg4 hsp4 hbs hSA hb14))|(go_at_call 31;refine HUP.out.mono ?_;rintro e w5 ⟨rfl,hb5⟩;go_loud (have hr5:=z0a w5 (.cells #[.int .i64 r.1,.int .u32 r.2] 36 (0,0));have hbr:Below w5.heap.size w5 (w5.alloc (.cells #[.int .i64 r.1,.int .u32 r.2] 36 (0,0))):=(Below.refl _ _).alloc (Nat.le_refl _) _;have hb45:=hb5.trans (hbr.mono hb5.size);have HSP:=hid (HSA.out.keep hb45);have R5:=hid hr5;have HBP:=hid (HB4.out.trans (hb45.mono HB4.out.size));have HL5:=hid (show w.heap.size<=w5.heap.size by have:=HB4.out.size;have:=hb5.size;omega);clear hr5 hbr hb45 hb5)))
 clear HUP HB4 HSA HSK HBW a0 a1
 generalize hWX:w5.alloc (.cells #[.int .i64 r.1,.int .u32 r.2] 36 (0,0))=W at *
 generalize w4.heap.size=sp at *
 generalize w5.heap.size=rb at *
 clear hWX
 obtain⟨⟨xis,⟨kn,cd,vl,xp,⟨ya,yn,yc⟩,⟨za,zn,zc⟩,xpl,xdi⟩,xgn⟩,hLx,_,_,_⟩:=HR.out.live HQR.out
 have HNW:=hid (fun w1 (hb:Below W.heap.size W w1)=>node_at r.1 r.2 w1 (HT.out.keep (HBP.out.trans (hb.mono HBP.out.size))) hLx)
 clear hLx
 have HOK:=hid (NJOk.calm (W0:=W) (T:=102) (z:=#[.int .i64 0,.string ⟨#[]⟩,.string ⟨#[]⟩,.string ⟨#[]⟩,.slice none 0 0,.slice none 0 0]) (o:=#[.int .i64 kn,.string cd,.string vl,.string xp,.slice ya yn yc,.slice za zn zc]) (dl:=fun _=>[]))
 refine z0r 7 [5] (fun xs=>[.pointer (some ⟨t,0,none⟩),.pointer (some ⟨t,0,none⟩),.pointer (some ⟨t,0,none⟩),.agg #[.int .i64 r.1,.int .u32 r.2],.agg #[.int .i64 kn,.string cd,.string vl,.string xp,.slice ya yn yc,.slice za zn zc],xs 5,undef]) (NJ (fun _=>False) (fun _=>True) (fun _=>True) (fun _ _ _=>True) W 102 #[.int .i64 0,.string ⟨#[]⟩,.string ⟨#[]⟩,.string ⟨#[]⟩,.slice none 0 0,.slice none 0 0] (fun _=>#[.int .i64 kn,.string cd,.string vl,.string xp,.slice ya yn yc,.slice za zn zc]) [] [] 99 5 6 [] [] (fun _=>[]) (fun _=>undef) (fun _ _=>undef)) (NJ.start trivial) (fun xs ys h=>by simp[h]) ?_ ?_
 ·dsimp only[List.take,z1c,OpT,z1s]
  (repeat' refine And.intro ?_ ?_)<;>first|refine .inl ⟨rfl,?_⟩|refine .inr ⟨rfl,?_⟩
  iterate 5
   ·intro D xs w1 hDk hwt hJ
    have hr:=((hJ.m.below (Nat.le_refl _) (fun _ _ e=>e)).block _ (lt_of_block R5.out)).trans R5.out;have n0:=cell_of hr 0;have n1:=cell_of hr 1;clear hr;have HND:=hid (HNW.out w1 (hJ.m.below (Nat.le_refl _) (fun _ _ e=>e)))
    have HJ:=hid hJ
    have HD:=hid hDk
    clear hDk hwt hJ
    go_wp2_with (go_at_call 32;refine HND.out.mono ?_;rintro e w2 ⟨rfl,hb2⟩)
    refine⟨by kernel_rfl,?_⟩
    intros
    exact NJ.calm HOK.out HJ.out HD.out (by first|exact Below.refl _ _|assumption)
  ·intro D xs w1 hDk hwt hJ
   have HJ:=hid hJ
   have HD:=hid hDk
   clear hDk hwt hJ
   go_wp2_with fail
   first|exact⟨_,by kernel_rfl,fun u hu=>by obtain rfl:=hu rfl;exact NJ.alloc HOK.out HJ.out HD.out⟩|exact⟨_,by kernel_rfl,NJ.alloc HOK.out HJ.out HD.out⟩
  ·intro D xs w1 hDk hwt hJ
   have hA:=hwt 5 (eM (by kernel_rfl))
   obtain⟨b0,hb0,eb0,hc0⟩:=hJ.a hA
   rw[eb0]
   have HEB:=hid eb0
   clear eb0
   rw[show D 6=false from hDk] at hc0
   simp only[cond_false] at hc0
   have q0:=cell_of hc0 0
   have q1:=cell_of hc0 1
   have q2:=cell_of hc0 2
   have q3:=cell_of hc0 3
   have q4:=cell_of hc0 4
   have q5:=cell_of hc0 5
   have qf:=z0e hc0
   have HC:=hid hc0
   clear hc0
   have HJ:=hid hJ
   have HD:=hid hDk
   clear hDk hwt hJ
   go_wp2_with fail
   obtain⟨m1,m2⟩:=(set6_mod _ _ _ _ _ _ HC.out)
   refine⟨by kernel_rfl,?_⟩;intros;exact NJ.store HOK.out HJ.out HD.out hA (fun k h=>by simp at h) HEB.out m2 m1
 intro D xs w7 hD hJ
 obtain⟨u,hu,eu,hc⟩:=hJ.a (hD 5 (by omega))
 rw[hD 6 (by omega)] at hc
 simp only[cond_true] at hc
 have HBu:=hid (hJ.m.below (Nat.le_refl _) (fun _ _ e=>e))
 have HOu:=hid hc
 have HLu:=hid hu
 dsimp only[List.take,z1s,List.drop]
 rw[eu]
 clear hD hJ eu hc hu HOK
 have HB7:=hid (HBP.out.trans (HBu.out.mono HBP.out.size))
 have HSP7:=hid (HSP.out.keep HBu.out)
 have HTK:=hid (take_leaf c v w7 (HTP.out.keep HB7.out) HF.out.1 HF.out.2.1 HF.out.2.2.1 rr HF.out.2.2.2.1 HF.out.2.2.2.2)
 have hlt:=HLT.out
 have hg4:=HG4.out
 have hl4:=HL4.out
 have HNT:Hid (¬ TOwn sg km sp/\¬ TOwn sg km g4):=hid (by refine⟨?_,?_⟩<;>rintro (e|e)<;>omega)
 clear hlt hg4 hl4
 have s0:=cell_of HSP7.out.h 0
 rw[HWH.out] at s0
 clear HNW R5 HSP HBP
 go_wp2_with (first|(go_at_call 34;refine HTK.out.mono ?_;rintro e w8 ⟨rfl,hT8,hM8⟩;go_loud (have hsp8:=HSP7.out.mod' hM8 HNT.out.1 HNT.out.2;have hs0:=cell_of (z0c (o':=(.cells #[.int .i64 j,.int .u32 (pj.gen+1)] 36 (0,0))) hsp8.h) 0;rw[HWH.out] at hs0;have hb8:Below w8.heap.size w8 (w8.alloc (.cells #[.int .i64 j,.int .u32 (pj.gen+1)] 36 (0,0))):=(Below.refl _ _).alloc (Nat.le_refl _) _;have hM9:=((Mod.z0j (S:=TOwn sg km) HB7.out).trans hM8 (fun _ _ h=>h));have hM9:=hM9.trans (z1e hb8) (fun _ _ h=>h);have HFX:=hid (HFK.out _ _ _ _ (hT8.keep hb8) (z1w HRM.out hM9 H0.out) (hsp8.keep hb8) HNT.out);have HM9:=hid hM9;clear hT8 hM8 hsp8 hb8 hM9 s0))|(go_at_call 35;refine HFX.out.mono ?_;rintro e w10 ⟨rfl,hT10,hM10⟩;have HE:=hid (And.intro hT10 hM10);clear hT10 hM10))
 refine bodyPost_ret (v:=.tuple #[.slice none 0 0,.int .i64 0]) ?hr ?hd ?post
 case hr=>kernel_rfl
 case hd=>kernel_rfl
 case post=>exact⟨rfl,HE.out.1,HM9.out.trans HE.out.2 (fun _ _ h=>h)⟩
set_option maxRecDepth 20000 in
set_option maxHeartbeats 8000000 in
theorem Put_fork4 {s:SpotP} {r:Int × Int} (w:World) (h:TreeAt w t sb sg kb km l L tk) (hR:Rel w l P) (hr:RoomsAt w) (hc:z2l c) (hv:v.size<=32) (hq:z0l P slot gen i q) (hp:q.planted=true) (hs:SeekW P c (slot,gen) 0 [] s) (hw:s.what=4)
 (h2:2<=s.way.length) (hrl:s.way[s.way.length - 1]?=some r) (hqr:z0l P r.1 r.2 ir qr) (hF:z2s P (j:Int)) (hj:P[j]?=some pj) (hjr:pj.room=true) (hrm:2<=z1j P) (h0:¬ TOwn sg km 0) (rr:RefK) (hr1:rr.1.1=j) (hr2:rr.1.2=pj.gen+1)
 (hfk:∀ W b g wc,z0s W t sb sg kb km (P.set j ⟨true,⟨.leaf c v,false,false⟩,pj.gen+1⟩) (K.addL L rr).2 tk->RoomsAt W->SpotAt W b g wc s->¬ TOwn sg km b/\¬ TOwn sg km g->Calls Tryz.prog 35 #[.pointer (some ⟨t,0,none⟩),.pointer (some ⟨b,0,none⟩),.string c,.agg #[.int .i64 j,.int .u32 (pj.gen+1)]] W fun e w'=>e=.returned (.tuple #[])/\z0s w' t sb sg kb km P2 L2 tk/\Mod (TOwn sg km) W w') :
 Calls Tryz.prog 8 #[.pointer (some ⟨t,0,none⟩),.agg #[.int .i64 slot,.int .u32 gen],.string c,.string v] w fun e w'=>e=.returned (.tuple #[.slice none 0 0,.int .i64 0])/\z0s w' t sb sg kb km P2 L2 tk/\Mod (TOwn sg km) w w':=by
 have hB0:Below w.heap.size w (w.alloc (.cells #[.int .i64 slot,.int .u32 gen] 36 (0,0))):=(Below.refl _ _).alloc (Nat.le_refl _) _
 have HPL:=hid (Plan_put4 (w.alloc (.cells #[.int .i64 slot,.int .u32 gen] 36 (0,0))) (h.keep hB0) (hR.keep hB0) (hr.keep hB0) hc hq hp hs hw 2 [] 2 (fun w1 b g wc hb1 hsa hwc=>(split_at hsa h2 hwc).mono (fun e w' h=>⟨none,0,h.1,World.ownsRow_nil _ _ _ _,h.2⟩)))
 have HQR:=hid hqr
 have HFK:=hid hfk
 have H0:=hid h0
 have HF:=hid (And.intro hF (And.intro hj (And.intro hjr (And.intro hr1 hr2))))
 clear hqr hfk h0 hF hj hjr hr1 hr2 hB0
 have b0:=z0a w (.cells #[.int .i64 slot,.int .u32 gen] 36 (0,0))
 have hB:Below w.heap.size w (w.alloc (.cells #[.int .i64 slot,.int .u32 gen] 36 (0,0))):=(Below.refl _ _).alloc (Nat.le_refl _) _
 have dv:decide ((v.size:Int) > 32)=false:=by simp;omega
 have HWM:Hid (s.way.length<=100):=hid (by have h1:=SeekW.way_le hs;have h2:=hc.size;simp only[List.length_nil] at h1;omega)
 have HSKA:=hid (fun w1 (hb:Below w.heap.size w w1)=>Seek_at w1 (h.keep hb) (hR.keep hb) (hr.keep hb) hc hq hp hs)
 have hrml:z1j l=z1j P:=hR.z1j
 have HLT:=hid (And.intro (lt_of_block h.ht) (And.intro h.hs.blt (And.intro h.hs.glt h.hk.lt)))
 have HT:=hid h
 have HR:=hid hR
 have HRM:=hid hr
 have HWH:=hid hw
 have HS:=hid hs
 have HRL:=hid hrl
 have HTP:Hid (z0s w t sb sg kb km P L tk):=hid ⟨l,h,hR⟩
 have d6:decide (((z1j l:Nat):Int)<2)=false:=by rw[hrml];simp;omega
 clear hrml hR hr hc hq hp hs hw hrl h
 go_enter Tryz.func8,Tryz.ntmps8
 go_wp2_with ((go_at_call 28;refine HPL.out.mono ?_;rintro e w2 ⟨g,wc,da,dc,rfl,how,hod,hb2⟩;unfold z2k;go_loud (have h0:=(hb2.block _ (lt_of_block b0)).trans b0;have hc2:=z0a w2 (.cells #[(.slice (some ⟨g,(s.way.length - 2) * 2,none⟩) 2 (wc - (s.way.length - 2))),.slice da 0 dc,.int .i64 2] 90 (0,0));have hbc:Below w2.heap.size w2 (w2.alloc (.cells #[(.slice (some ⟨g,(s.way.length - 2) * 2,none⟩) 2 (wc - (s.way.length - 2))),.slice da 0 dc,.int .i64 2] 90 (0,0))):=(Below.refl _ _).alloc (Nat.le_refl _) _;have hbw2:=hB.trans (hb2.mono hB.size);have HB2:=hid (hbw2.trans (hbc.mono hbw2.size));have HC2:=hid hc2;have H02:=hid ((hbc.block _ (lt_of_block h0)).trans h0);have HV0:=hid (show w.heap.size<=w2.heap.size from hbw2.size);clear h0 hc2 hbc hbw2 how hod hb2)))
 generalize hWA:w2.alloc (.cells #[(.slice (some ⟨g,(s.way.length - 2) * 2,none⟩) 2 (wc - (s.way.length - 2))),.slice da 0 dc,.int .i64 2] 90 (0,0))=WA at *
 generalize w2.heap.size=vb at *
 have HTA:=hid (HT.out.keep HB2.out)
 clear hWA
 refine z0g 10 (fun w1=>Below (WA).heap.size (WA) w1) (by kernel_rfl) (by kernel_rfl) (by kernel_rfl) ⟨rfl,rfl,rfl,Nat.le_refl _,fun _ _=>rfl⟩ ?_
 dsimp only[List.take]
 iterate 10
  refine Seq.cons (a':=?_) ?_ ?_ ?_
  rotate_left
  ·intro w1 hw1
   have t0:=cell_of (HTA.out.keep hw1).ht 0;have c2:=cell_of (z0b HC2.out hw1 (lt_of_block HC2.out)) 2
   go_wp2_with (go_at_call 29;refine (S.left_any _ (HTA.out.keep hw1).hs).mono ?_;rintro e w' ⟨rfl,hb⟩)
   refine⟨?_,by first|assumption|(simpa using z0d hw1 hb hw1.size)⟩
   exact rfl
  ·kernel_rfl
 refine SeqI.nil ?_
 intro _ w1 _ hw1
 dsimp only[List.drop]
 have hbw:=HB2.out.trans (hw1.mono HB2.out.size)
 have h02:=z0b H02.out hw1 (lt_of_block H02.out)
 have a0:=cell_of h02 0
 have a1:=cell_of h02 1
 have HSK:=hid (HSKA.out _ hbw)
 have HBW:=hid hbw
 clear hw1 h02 hbw HPL H02 HC2 HB2 HTA
 go_wp2_with (first|(go_at_call 30;refine HSK.out.mono ?_;rintro e w4 ⟨wa,wc4,rfl,how,hb4⟩;rw[HWH.out];go_loud (obtain⟨g4,rfl,lg,_⟩:=O.z0z (z2g how (Nat.zero_le _)) (SeekW.z1o HS.out);have hg4:=(show _<=g4 from (O.z2a how rfl).1);have hsp4:=z0a w4 (.cells #[.int .i64 4,.slice (some ⟨g4,0,none⟩) s.way.length wc4,.int .i64 s.at_,.int .i64 s.depth] 107 (0,0));have hbs:Below w4.heap.size w4 (w4.alloc (.cells #[.int .i64 4,.slice (some ⟨g4,0,none⟩) s.way.length wc4,.int .i64 s.at_,.int .i64 s.depth] 107 (0,0))):=(Below.refl _ _).alloc (Nat.le_refl _) _;have hSA:SpotAt (w4.alloc (.cells #[.int .i64 4,.slice (some ⟨g4,0,none⟩) s.way.length wc4,.int .i64 s.at_,.int .i64 s.depth] 107 (0,0))) w4.heap.size g4 wc4 s:=⟨(by rw[HWH.out];exact hsp4),z2g (O.z0h how (O.z0n (S:=fun _=>False) hbs) (fun _ _ h=>h)) (Nat.zero_le _),SeekW.z1o HS.out,HWM.out⟩;have HUP:=hid (up_at (k:=0) hSA (SeekW.z1o HS.out) (by simpa using HRL.out));have hb14:=hb4.trans (hbs.mono hb4.size);have HB4:=hid (HBW.out.trans (hb14.mono HBW.out.size));have HSA:=hid hSA;have HG4:=hid (show w.heap.size<=g4 by have:=HBW.out.size;omega);have HL4:=hid (show w.heap.size<=w4.heap.size by have:=HBW.out.size;have:=hb4.size;omega);clear how hb4 lg hg4 hsp4 hbs hSA hb14))|(go_at_call 31;refine HUP.out.mono ?_;rintro e w5 ⟨rfl,hb5⟩;go_loud (have hr5:=z0a w5 (.cells #[.int .i64 r.1,.int .u32 r.2] 36 (0,0));have hbr:Below w5.heap.size w5 (w5.alloc (.cells #[.int .i64 r.1,.int .u32 r.2] 36 (0,0))):=(Below.refl _ _).alloc (Nat.le_refl _) _;have hb45:=hb5.trans (hbr.mono hb5.size);have HSP:=hid (HSA.out.keep hb45);have R5:=hid hr5;have HBP:=hid (HB4.out.trans (hb45.mono HB4.out.size));have HL5:=hid (show w.heap.size<=w5.heap.size by have:=HB4.out.size;have:=hb5.size;omega);clear hr5 hbr hb45 hb5)))
 clear HUP HB4 HSA HSK HBW a0 a1
 generalize hWX:w5.alloc (.cells #[.int .i64 r.1,.int .u32 r.2] 36 (0,0))=W at *
 generalize w4.heap.size=sp at *
 generalize w5.heap.size=rb at *
 clear hWX
 obtain⟨⟨xis,⟨kn,cd,vl,xp,⟨ya,yn,yc⟩,⟨za,zn,zc⟩,xpl,xdi⟩,xgn⟩,hLx,_,_,_⟩:=HR.out.live HQR.out
 have HNW:=hid (fun w1 (hb:Below W.heap.size W w1)=>node_at r.1 r.2 w1 (HT.out.keep (HBP.out.trans (hb.mono HBP.out.size))) hLx)
 clear hLx
 have HOK:=hid (NJOk.calm (W0:=W) (T:=102) (z:=#[.int .i64 0,.string ⟨#[]⟩,.string ⟨#[]⟩,.string ⟨#[]⟩,.slice none 0 0,.slice none 0 0]) (o:=#[.int .i64 kn,.string cd,.string vl,.string xp,.slice ya yn yc,.slice za zn zc]) (dl:=fun _=>[]))
 refine z0r 7 [5] (fun xs=>[.pointer (some ⟨t,0,none⟩),.pointer (some ⟨t,0,none⟩),.pointer (some ⟨t,0,none⟩),.agg #[.int .i64 r.1,.int .u32 r.2],.agg #[.int .i64 kn,.string cd,.string vl,.string xp,.slice ya yn yc,.slice za zn zc],xs 5,undef]) (NJ (fun _=>False) (fun _=>True) (fun _=>True) (fun _ _ _=>True) W 102 #[.int .i64 0,.string ⟨#[]⟩,.string ⟨#[]⟩,.string ⟨#[]⟩,.slice none 0 0,.slice none 0 0] (fun _=>#[.int .i64 kn,.string cd,.string vl,.string xp,.slice ya yn yc,.slice za zn zc]) [] [] 99 5 6 [] [] (fun _=>[]) (fun _=>undef) (fun _ _=>undef)) (NJ.start trivial) (fun xs ys h=>by simp[h]) ?_ ?_
 ·dsimp only[List.take,z1c,OpT,z1s]
  (repeat' refine And.intro ?_ ?_)<;>first|refine .inl ⟨rfl,?_⟩|refine .inr ⟨rfl,?_⟩
  iterate 5
   ·intro D xs w1 hDk hwt hJ
    have hr:=((hJ.m.below (Nat.le_refl _) (fun _ _ e=>e)).block _ (lt_of_block R5.out)).trans R5.out;have n0:=cell_of hr 0;have n1:=cell_of hr 1;clear hr;have HND:=hid (HNW.out w1 (hJ.m.below (Nat.le_refl _) (fun _ _ e=>e)))
    have HJ:=hid hJ
    have HD:=hid hDk
    clear hDk hwt hJ
    go_wp2_with (go_at_call 32;refine HND.out.mono ?_;rintro e w2 ⟨rfl,hb2⟩)
    refine⟨by kernel_rfl,?_⟩
    intros
    exact NJ.calm HOK.out HJ.out HD.out (by first|exact Below.refl _ _|assumption)
  ·intro D xs w1 hDk hwt hJ
   have HJ:=hid hJ
   have HD:=hid hDk
   clear hDk hwt hJ
   go_wp2_with fail
   first|exact⟨_,by kernel_rfl,fun u hu=>by obtain rfl:=hu rfl;exact NJ.alloc HOK.out HJ.out HD.out⟩|exact⟨_,by kernel_rfl,NJ.alloc HOK.out HJ.out HD.out⟩
  ·intro D xs w1 hDk hwt hJ
   have hA:=hwt 5 (eM (by kernel_rfl))
   obtain⟨b0,hb0,eb0,hc0⟩:=hJ.a hA
   rw[eb0]
   have HEB:=hid eb0
   clear eb0
   rw[show D 6=false from hDk] at hc0
   simp only[cond_false] at hc0
   have q0:=cell_of hc0 0
   have q1:=cell_of hc0 1
   have q2:=cell_of hc0 2
   have q3:=cell_of hc0 3
   have q4:=cell_of hc0 4
   have q5:=cell_of hc0 5
   have qf:=z0e hc0
   have HC:=hid hc0
   clear hc0
   have HJ:=hid hJ
   have HD:=hid hDk
   clear hDk hwt hJ
   go_wp2_with fail
   obtain⟨m1,m2⟩:=(set6_mod _ _ _ _ _ _ HC.out)
   refine⟨by kernel_rfl,?_⟩;intros;exact NJ.store HOK.out HJ.out HD.out hA (fun k h=>by simp at h) HEB.out m2 m1
 intro D xs w7 hD hJ
 obtain⟨u,hu,eu,hc⟩:=hJ.a (hD 5 (by omega))
 rw[hD 6 (by omega)] at hc
 simp only[cond_true] at hc
 have HBu:=hid (hJ.m.below (Nat.le_refl _) (fun _ _ e=>e))
 have HOu:=hid hc
 have HLu:=hid hu
 dsimp only[List.take,z1s,List.drop]
 rw[eu]
 clear hD hJ eu hc hu HOK
 have HB7:=hid (HBP.out.trans (HBu.out.mono HBP.out.size))
 have HSP7:=hid (HSP.out.keep HBu.out)
 have HTK:=hid (take_leaf c v w7 (HTP.out.keep HB7.out) HF.out.1 HF.out.2.1 HF.out.2.2.1 rr HF.out.2.2.2.1 HF.out.2.2.2.2)
 have hlt:=HLT.out
 have hg4:=HG4.out
 have hl4:=HL4.out
 have HNT:Hid (¬ TOwn sg km sp/\¬ TOwn sg km g4):=hid (by refine⟨?_,?_⟩<;>rintro (e|e)<;>omega)
 clear hlt hg4 hl4
 have s0:=cell_of HSP7.out.h 0
 rw[HWH.out] at s0
 clear HNW R5 HSP HBP
 go_wp2_with (first|(go_at_call 34;refine HTK.out.mono ?_;rintro e w8 ⟨rfl,hT8,hM8⟩;go_loud (have hsp8:=HSP7.out.mod' hM8 HNT.out.1 HNT.out.2;have hs0:=cell_of (z0c (o':=(.cells #[.int .i64 j,.int .u32 (pj.gen+1)] 36 (0,0))) hsp8.h) 0;rw[HWH.out] at hs0;have hb8:Below w8.heap.size w8 (w8.alloc (.cells #[.int .i64 j,.int .u32 (pj.gen+1)] 36 (0,0))):=(Below.refl _ _).alloc (Nat.le_refl _) _;have hM9:=((Mod.z0j (S:=TOwn sg km) HB7.out).trans hM8 (fun _ _ h=>h));have hM9:=hM9.trans (z1e hb8) (fun _ _ h=>h);have HFX:=hid (HFK.out _ _ _ _ (hT8.keep hb8) (z1w HRM.out hM9 H0.out) (hsp8.keep hb8) HNT.out);have HM9:=hid hM9;clear hT8 hM8 hsp8 hb8 hM9 s0))|(go_at_call 35;refine HFX.out.mono ?_;rintro e w10 ⟨rfl,hT10,hM10⟩;have HE:=hid (And.intro hT10 hM10);clear hT10 hM10))
 refine bodyPost_ret (v:=.tuple #[.slice none 0 0,.int .i64 0]) ?hr ?hd ?post
 case hr=>kernel_rfl
 case hd=>kernel_rfl
 case post=>exact⟨rfl,HE.out.1,HM9.out.trans HE.out.2 (fun _ _ h=>h)⟩
variable {di pl:Bool}
theorem set_leaf {us ug:Int} (c v:ByteArray) (w:World) (h:z0s w t sb sg kb km P L tk) {q:PN} (hu:z0l P us ug i ⟨q,pl,di⟩) :
 Calls Tryz.prog 33 #[.pointer (some ⟨t,0,none⟩),.agg #[.int .i64 us,.int .u32 ug],.agg #[.int .i64 1,.string c,.string v,.string ⟨#[]⟩,.slice none 0 0,.slice none 0 0]] w fun e w'=>e=.returned (.tuple #[])/\z0s w' t sb sg kb km (P.set i ⟨true,⟨.leaf c v,pl,di⟩,ug⟩) L tk/\Mod (·=sg) w w':=by
 obtain⟨l,h1,h2⟩:=h
 obtain⟨⟨xis,x,xgn⟩,hLx,hplx,hdix,hNx⟩:=h2.live hu
 obtain rfl:xis=true:=hLx.2.2.1
 obtain rfl:xgn=ug:=hLx.2.2.2
 simp only at hplx hdix
 refine (pset_at us xgn 1 c v ⟨#[]⟩ none none 0 0 0 0 w h1 hLx).mono ?_
 rintro e w' ⟨e1,hT,hM⟩
 exact⟨e1,⟨_,hT,Rel.set (q:=⟨.leaf c v,pl,di⟩) (h2.mod hM (fun k' e=>h1.noRow k' (.inl e))) true (fun _=>⟨hplx.symm,hdix.symm,rfl,rfl,rfl,rfl,rfl,rfl⟩)⟩,hM⟩
set_option maxRecDepth 20000 in
set_option maxHeartbeats 8000000 in
theorem Put_here {cd vl:ByteArray} {s:SpotP} {r:Int × Int} (w:World) (h:TreeAt w t sb sg kb km l L tk) (hR:Rel w l P) (hr:RoomsAt w) (hc:z2l c) (hv:v.size<=32) (hq:z0l P slot gen i q) (hp:q.planted=true) (hs:SeekW P c (slot,gen) 0 [] s) (hw:s.what=1)
 (hrl:s.way[s.way.length - 1]?=some r) (hqr:z0l P r.1 r.2 ir ⟨.leaf cd vl,pl,di⟩) :
 Calls Tryz.prog 8 #[.pointer (some ⟨t,0,none⟩),.agg #[.int .i64 slot,.int .u32 gen],.string c,.string v] w fun e w'=>e=.returned (.tuple #[.slice none 0 0,.int .i64 0])/\z0s w' t sb sg kb km (P.set ir ⟨true,⟨.leaf cd v,pl,di⟩,r.2⟩) L tk/\Mod (·=sg) w w':=by
 have hB0:Below w.heap.size w (w.alloc (.cells #[.int .i64 slot,.int .u32 gen] 36 (0,0))):=(Below.refl _ _).alloc (Nat.le_refl _) _
 have HPL:=hid (Plan_put1 (w.alloc (.cells #[.int .i64 slot,.int .u32 gen] 36 (0,0))) (h.keep hB0) (hR.keep hB0) (hr.keep hB0) hc hq hp hs hw 1 [] 0 (fun w1 b g wc hb1 hsa hwc=>(here_at hsa (SeekW.z1o hs) hwc).mono (fun e w' h=>⟨none,0,h.1,World.ownsRow_nil _ _ _ _,h.2⟩)))
 have HQR:=hid hqr
 clear hqr hB0
 have b0:=z0a w (.cells #[.int .i64 slot,.int .u32 gen] 36 (0,0))
 have hB:Below w.heap.size w (w.alloc (.cells #[.int .i64 slot,.int .u32 gen] 36 (0,0))):=(Below.refl _ _).alloc (Nat.le_refl _) _
 have dv:decide ((v.size:Int) > 32)=false:=by simp;omega
 have HWM:Hid (s.way.length<=100):=hid (by have h1:=SeekW.way_le hs;have h2:=hc.size;simp only[List.length_nil] at h1;omega)
 have HSKA:=hid (fun w1 (hb:Below w.heap.size w w1)=>Seek_at w1 (h.keep hb) (hR.keep hb) (hr.keep hb) hc hq hp hs)
 have hrml:z1j l=z1j P:=hR.z1j
 have HLT:=hid (And.intro (lt_of_block h.ht) (And.intro h.hs.blt (And.intro h.hs.glt h.hk.lt)))
 have HT:=hid h
 have HR:=hid hR
 have HRM:=hid hr
 have HWH:=hid hw
 have HS:=hid hs
 have HRL:=hid hrl
 have HTP:Hid (z0s w t sb sg kb km P L tk):=hid ⟨l,h,hR⟩
 have d6:decide (((z1j l:Nat):Int)<0)=false:=by rw[hrml];first|(simp;done)|(simp;omega)
 clear hrml hR hr hc hq hp hs hw hrl h
 go_enter Tryz.func8,Tryz.ntmps8
 go_wp2_with ((go_at_call 28;refine HPL.out.mono ?_;rintro e w2 ⟨g,wc,da,dc,rfl,how,hod,hb2⟩;unfold z2k;go_loud (have h0:=(hb2.block _ (lt_of_block b0)).trans b0;have hc2:=z0a w2 (.cells #[(.slice (some ⟨g,(s.way.length - 1) * 2,none⟩) 1 (wc - (s.way.length - 1))),.slice da 0 dc,.int .i64 0] 90 (0,0));have hbc:Below w2.heap.size w2 (w2.alloc (.cells #[(.slice (some ⟨g,(s.way.length - 1) * 2,none⟩) 1 (wc - (s.way.length - 1))),.slice da 0 dc,.int .i64 0] 90 (0,0))):=(Below.refl _ _).alloc (Nat.le_refl _) _;have hbw2:=hB.trans (hb2.mono hB.size);have HB2:=hid (hbw2.trans (hbc.mono hbw2.size));have HC2:=hid hc2;have H02:=hid ((hbc.block _ (lt_of_block h0)).trans h0);have HV0:=hid (show w.heap.size<=w2.heap.size from hbw2.size);clear h0 hc2 hbc hbw2 how hod hb2)))
 generalize hWA:w2.alloc (.cells #[(.slice (some ⟨g,(s.way.length - 1) * 2,none⟩) 1 (wc - (s.way.length - 1))),.slice da 0 dc,.int .i64 0] 90 (0,0))=WA at *
 generalize w2.heap.size=vb at *
 have HTA:=hid (HT.out.keep HB2.out)
 clear hWA
 refine z0g 10 (fun w1=>Below (WA).heap.size (WA) w1) (by kernel_rfl) (by kernel_rfl) (by kernel_rfl) ⟨rfl,rfl,rfl,Nat.le_refl _,fun _ _=>rfl⟩ ?_
 dsimp only[List.take]
 iterate 10
  refine Seq.cons (a':=?_) ?_ ?_ ?_
  rotate_left
  ·intro w1 hw1
   have t0:=cell_of (HTA.out.keep hw1).ht 0;have c2:=cell_of (z0b HC2.out hw1 (lt_of_block HC2.out)) 2
   go_wp2_with (go_at_call 29;refine (S.left_any _ (HTA.out.keep hw1).hs).mono ?_;rintro e w' ⟨rfl,hb⟩)
   refine⟨?_,by first|assumption|(simpa using z0d hw1 hb hw1.size)⟩
   exact rfl
  ·kernel_rfl
 refine SeqI.nil ?_
 intro _ w1 _ hw1
 dsimp only[List.drop]
 have hbw:=HB2.out.trans (hw1.mono HB2.out.size)
 have h02:=z0b H02.out hw1 (lt_of_block H02.out)
 have a0:=cell_of h02 0
 have a1:=cell_of h02 1
 have HSK:=hid (HSKA.out _ hbw)
 have HBW:=hid hbw
 clear hw1 h02 hbw HPL H02 HC2 HB2 HTA
 go_wp2_with (first|(go_at_call 30;refine HSK.out.mono ?_;rintro e w4 ⟨wa,wc4,rfl,how,hb4⟩;rw[HWH.out];go_loud (obtain⟨g4,rfl,lg,_⟩:=O.z0z (z2g how (Nat.zero_le _)) (SeekW.z1o HS.out);have hg4:=(show _<=g4 from (O.z2a how rfl).1);have hsp4:=z0a w4 (.cells #[.int .i64 1,.slice (some ⟨g4,0,none⟩) s.way.length wc4,.int .i64 s.at_,.int .i64 s.depth] 107 (0,0));have hbs:Below w4.heap.size w4 (w4.alloc (.cells #[.int .i64 1,.slice (some ⟨g4,0,none⟩) s.way.length wc4,.int .i64 s.at_,.int .i64 s.depth] 107 (0,0))):=(Below.refl _ _).alloc (Nat.le_refl _) _;have hSA:SpotAt (w4.alloc (.cells #[.int .i64 1,.slice (some ⟨g4,0,none⟩) s.way.length wc4,.int .i64 s.at_,.int .i64 s.depth] 107 (0,0))) w4.heap.size g4 wc4 s:=⟨(by rw[HWH.out];exact hsp4),z2g (O.z0h how (O.z0n (S:=fun _=>False) hbs) (fun _ _ h=>h)) (Nat.zero_le _),SeekW.z1o HS.out,HWM.out⟩;have HUP:=hid (up_at (k:=0) hSA (SeekW.z1o HS.out) (by simpa using HRL.out));have hb14:=hb4.trans (hbs.mono hb4.size);have HB4:=hid (HBW.out.trans (hb14.mono HBW.out.size));have HSA:=hid hSA;have HG4:=hid (show w.heap.size<=g4 by have:=HBW.out.size;omega);have HL4:=hid (show w.heap.size<=w4.heap.size by have:=HBW.out.size;have:=hb4.size;omega);clear how hb4 lg hg4 hsp4 hbs hSA hb14))|(go_at_call 31;refine HUP.out.mono ?_;rintro e w5 ⟨rfl,hb5⟩;go_loud (have hr5:=z0a w5 (.cells #[.int .i64 r.1,.int .u32 r.2] 36 (0,0));have hbr:Below w5.heap.size w5 (w5.alloc (.cells #[.int .i64 r.1,.int .u32 r.2] 36 (0,0))):=(Below.refl _ _).alloc (Nat.le_refl _) _;have hb45:=hb5.trans (hbr.mono hb5.size);have HSP:=hid (HSA.out.keep hb45);have R5:=hid hr5;have HBP:=hid (HB4.out.trans (hb45.mono HB4.out.size));have HL5:=hid (show w.heap.size<=w5.heap.size by have:=HB4.out.size;have:=hb5.size;omega);clear hr5 hbr hb45 hb5)))
 clear HUP HB4 HSA HSK HBW a0 a1
 generalize hWX:w5.alloc (.cells #[.int .i64 r.1,.int .u32 r.2] 36 (0,0))=W at *
 generalize w4.heap.size=sp at *
 generalize w5.heap.size=rb at *
 clear hWX
 obtain⟨l2,hTA2,_,hLx⟩:=HTP.out.leaf HQR.out
 have HNW:=hid (fun w1 (hb:Below W.heap.size W w1)=>node_at r.1 r.2 w1 (hTA2.keep (HBP.out.trans (hb.mono HBP.out.size))) hLx)
 clear hLx hTA2
 have HOK:=hid (NJOk.calm (W0:=W) (T:=102) (z:=#[.int .i64 0,.string ⟨#[]⟩,.string ⟨#[]⟩,.string ⟨#[]⟩,.slice none 0 0,.slice none 0 0]) (o:=#[.int .i64 1,.string cd,.string vl,.string ⟨#[]⟩,.slice none 0 0,.slice none 0 0]) (dl:=fun _=>[]))
 refine z0r 7 [5] (fun xs=>[.pointer (some ⟨t,0,none⟩),.pointer (some ⟨t,0,none⟩),.pointer (some ⟨t,0,none⟩),.agg #[.int .i64 r.1,.int .u32 r.2],.agg #[.int .i64 1,.string cd,.string vl,.string ⟨#[]⟩,.slice none 0 0,.slice none 0 0],xs 5,undef]) (NJ (fun _=>False) (fun _=>True) (fun _=>True) (fun _ _ _=>True) W 102 #[.int .i64 0,.string ⟨#[]⟩,.string ⟨#[]⟩,.string ⟨#[]⟩,.slice none 0 0,.slice none 0 0] (fun _=>#[.int .i64 1,.string cd,.string vl,.string ⟨#[]⟩,.slice none 0 0,.slice none 0 0]) [] [] 99 5 6 [] [] (fun _=>[]) (fun _=>undef) (fun _ _=>undef)) (NJ.start trivial) (fun xs ys h=>by simp[h]) ?_ ?_
 ·dsimp only[List.take,z1c,OpT,z1s]
  (repeat' refine And.intro ?_ ?_)<;>first|refine .inl ⟨rfl,?_⟩|refine .inr ⟨rfl,?_⟩
  iterate 5
   ·intro D xs w1 hDk hwt hJ
    have hr:=((hJ.m.below (Nat.le_refl _) (fun _ _ e=>e)).block _ (lt_of_block R5.out)).trans R5.out;have n0:=cell_of hr 0;have n1:=cell_of hr 1;clear hr;have HND:=hid (HNW.out w1 (hJ.m.below (Nat.le_refl _) (fun _ _ e=>e)))
    have HJ:=hid hJ
    have HD:=hid hDk
    clear hDk hwt hJ
    go_wp2_with (go_at_call 32;refine HND.out.mono ?_;rintro e w2 ⟨rfl,hb2⟩)
    refine⟨by kernel_rfl,?_⟩
    intros
    exact NJ.calm HOK.out HJ.out HD.out (by first|exact Below.refl _ _|assumption)
  ·intro D xs w1 hDk hwt hJ
   have HJ:=hid hJ
   have HD:=hid hDk
   clear hDk hwt hJ
   go_wp2_with fail
   first|exact⟨_,by kernel_rfl,fun u hu=>by obtain rfl:=hu rfl;exact NJ.alloc HOK.out HJ.out HD.out⟩|exact⟨_,by kernel_rfl,NJ.alloc HOK.out HJ.out HD.out⟩
  ·intro D xs w1 hDk hwt hJ
   have hA:=hwt 5 (eM (by kernel_rfl))
   obtain⟨b0,hb0,eb0,hc0⟩:=hJ.a hA
   rw[eb0]
   have HEB:=hid eb0
   clear eb0
   rw[show D 6=false from hDk] at hc0
   simp only[cond_false] at hc0
   have q0:=cell_of hc0 0
   have q1:=cell_of hc0 1
   have q2:=cell_of hc0 2
   have q3:=cell_of hc0 3
   have q4:=cell_of hc0 4
   have q5:=cell_of hc0 5
   have qf:=z0e hc0
   have HC:=hid hc0
   clear hc0
   have HJ:=hid hJ
   have HD:=hid hDk
   clear hDk hwt hJ
   go_wp2_with fail
   obtain⟨m1,m2⟩:=(set6_mod _ _ _ _ _ _ HC.out)
   refine⟨by kernel_rfl,?_⟩;intros;exact NJ.store HOK.out HJ.out HD.out hA (fun k h=>by simp at h) HEB.out m2 m1
 intro D xs w7 hD hJ
 obtain⟨u,hu,eu,hc⟩:=hJ.a (hD 5 (by omega))
 rw[hD 6 (by omega)] at hc
 simp only[cond_true] at hc
 have HBu:=hid (hJ.m.below (Nat.le_refl _) (fun _ _ e=>e))
 have HOu:=hid hc
 have HLu:=hid hu
 dsimp only[List.take,z1s,List.drop]
 rw[eu]
 clear hD hJ eu hc hu HOK
 have HB7:=hid (HBP.out.trans (HBu.out.mono HBP.out.size))
 have R7:=(HBu.out.block _ (lt_of_block R5.out)).trans R5.out
 have hsp7:=HSP.out.keep HBu.out
 have HT7:=HTP.out.keep HB7.out
 have s0:=cell_of hsp7.h 0
 rw[HWH.out] at s0
 have qf:=z0e HOu.out
 have o2:=cell_of HOu.out 2
 have hM8:Mod (·=u) w7 (w7.setCell ⟨u,2,none⟩ (.string v)):=Mod.setCell (S:=(·=u)) (p:=⟨u,2,none⟩) (Mod.refl _ _) (.inl rfl) _
 have ho8:(w7.setCell ⟨u,2,none⟩ (.string v)).heap[u]?=some (.cells #[.int .i64 1,.string cd,.string v,.string ⟨#[]⟩,.slice none 0 0,.slice none 0 0] 102 (0,0)):=z0y HOu.out rfl
 have hlt:=HLT.out
 have hl5:=HL5.out
 have hlu:=HLu.out
 have hbs:=HBP.out.size
 have hru:¬ rb=u:=by have:=lt_of_block R5.out;omega
 have R8:=hid ((hM8.block rb (lt_of_block R7) hru).trans R7)
 have HO8:=hid ho8
 have hnr:∀ k,k=u->NoRow w7 k:=fun k e cs T fr hk=>by
  subst e
  rw[HOu.out] at hk
  cases hk
  exact⟨by decide,by decide⟩
 have HT8:=hid (HT7.mod hM8 hnr (show ¬ t=u by omega) (show ¬ sb=u by omega) (show ¬ sg=u by omega) (show ¬ kb=u by omega) (show ¬ km=u by omega))
 have HM8:Hid (Mod (·=sg) w (w7.setCell ⟨u,2,none⟩ (.string v))):=hid ((Mod.z0j (S:=(·=sg)) HB7.out).trans hM8 (fun i hi e=>by have e2:i=u:=e;omega))
 have HNS:Hid (¬ rb=sg/\¬ u=sg):=hid (by omega)
 clear HNW R5 HSP HBP hM8 ho8 hlt hl5 hlu hbs hru hnr R7 hsp7 HT7 HB7 HBu HOu HLu
 go_wp2_with fail
 generalize hW8:w7.setCell ⟨u,2,none⟩ (.string v)=w8 at *
 clear hW8 s0 qf o2
 refine z0f 6 (Turn 5 (KidJ w8 t sb sg kb km P L tk) (KidJ w8 t sb sg kb km (P.set ir ⟨true,⟨.leaf cd v,pl,di⟩,r.2⟩) L tk)) (by kernel_rfl) (by kernel_rfl) (by kernel_rfl) (Turn.start ⟨(Mod.refl (·=sg) w8).drew,HT8.out.keep (Below.refl _ _).drew⟩) ?_
 dsimp only[List.take]
 iterate 5
  refine Seq.calm (a':=?_) (by decide) ?_ ?_ ?_
  rotate_left
  ·intro w1 hw1
   have hM:Mod (·=sg) w8 w1:=hw1.elim KidJ.m KidJ.m
   have hr:=(hM.block rb (lt_of_block R8.out) HNS.out.1).trans R8.out
   have ho:=(hM.block u (lt_of_block HO8.out) HNS.out.2).trans HO8.out
   have n0:=cell_of hr 0
   have n1:=cell_of hr 1
   have o0:=cell_of ho 0
   have o1:=cell_of ho 1
   have o2:=cell_of ho 2
   have o3:=cell_of ho 3
   have o4:=cell_of ho 4
   have o5:=cell_of ho 5
   clear hM hr ho hw1
   go_wp2_with (fail)
   refine⟨?_,id,id⟩;exact rfl
  ·kernel_rfl
 refine Seq.turn (a':=?_) ?_ ?_ ?_
 rotate_left
 ·intro w1 hw1
  have HM:=hid hw1.m
  have HTT:=hid hw1.t
  clear hw1
  go_wp2_with (go_at_call 33;refine (set_leaf cd v w1 HTT.out HQR.out).mono ?_;rintro e w2 ⟨rfl,hT,hX⟩)
  refine⟨?_,HM.out.trans hX (fun _ _ h=>h),hT⟩
  exact rfl
 ·kernel_rfl
 iterate 0
  refine Seq.calm (a':=?_) (by decide) ?_ ?_ ?_
  rotate_left
  ·intro w1 hw1
   have hM:Mod (·=sg) w8 w1:=hw1.elim KidJ.m KidJ.m
   have hr:=(hM.block rb (lt_of_block R8.out) HNS.out.1).trans R8.out
   have ho:=(hM.block u (lt_of_block HO8.out) HNS.out.2).trans HO8.out
   have n0:=cell_of hr 0
   have n1:=cell_of hr 1
   have o0:=cell_of ho 0
   have o1:=cell_of ho 1
   have o2:=cell_of ho 2
   have o3:=cell_of ho 3
   have o4:=cell_of ho 4
   have o5:=cell_of ho 5
   clear hM hr ho hw1
   go_wp2_with (fail)
   refine⟨?_,id,id⟩;exact rfl
  ·kernel_rfl
 refine SeqI.nil ?_
 intro D w1 hD hI
 replace hI:=hI.done (hD 5 (by omega))
 clear hD
 dsimp only[List.drop]
 have HI:=hid hI
 clear hI
 go_wp2_with fail
 go_ret2
 exact⟨rfl,HI.out.t,HM8.out.trans HI.out.m (fun _ _ h=>h)⟩
end Go.Proofs.YtgdmfledhhoedaaGreatDoor.T
