/- Part 9 of 27. -/
import Derived.Test.YtgdmfledhhoedaaGreatDoorD02
import Derived.Maps.OwnSet
import Derived.Maps.OwnOps
import Derived.Test.YtgdmfledhhoedaaGreatDoorRows
import Derived.DeepKeys5
import Derived.Maps.RangeWalk
import Derived.Test.YtgdmfledhhoedaaGreatDoorD08
import Derived.Test.YtgdmfledhhoedaaGreatDoorD01
import Derived.BigQuiet
import Derived.Deep.RegionWith
import Derived.OwnWalk
namespace Go.Burg
open Go Go.RowKit
structure KeyOk {α:Type} (P:Program) (K:TypeId) (kf:α->Value):Prop where
 check:∀ (w:World) (em:Bool) (x:α),(Instr.checkKey em 10000 K (kf x)).run P w=.ok () w
 find:∀ (w:World) (x:α) (es:List MapEntry),(∀ e∈es,∃ y,e.key=kf y) ->
  ((Instr.findKey K (kf x) es).run P w=.ok none w/\∀ e∈es,e.key≠kf x)\/∃ j e,(Instr.findKey K (kf x) es).run P w=.ok (some (j,e.val)) w/\es[j]?=some e/\e.key=kf x
 stays:∀ (w:World) (x:α),(Instr.keyThatStays (kf x) (kf x)).run P w=.ok (kf x) w
 inj:∀ x y,kf x=kf y->x=y
theorem KeyOk.int {P:Program} {K:TypeId} {q:IntKind} (hd:P.underlying K=some (.int q)):KeyOk P K (Value.int q) where
 check w em x:=MapKept.run_checkKey hd (d:=.int q) (by simp[MapKept.IsKey]) em 9999
 find w x es hes:=by
  rcases MapKept.findNow_spec (d:=.int q) (k:=.int q x) (by simp[MapKept.IsKey]) es 0 (fun e he=>by obtain⟨y,hy⟩:=hes e he;rw[hy];simp[MapKept.IsKey]) with ⟨h1,h2⟩|⟨j,e0,h1,h2,h3⟩
  ·exact .inl ⟨MapKept.run_findKey hd h1,h2⟩
  ·exact .inr ⟨j,e0,by simpa using MapKept.run_findKey hd h1,h2,h3⟩
 stays w x:=MapKept.run_keyThatStays (d:=.int q) (by simp[MapKept.IsKey])
 inj x y h:=by cases h;rfl
variable {c s:Nat} {w':World}
section
variable {α β:Type}
def Stamps (es:Array MapEntry) (c:Nat):Prop:=(∀ e∈es.toList,e.born<c)/\(es.toList.map (·.born)).Nodup
@[simp] theorem Stamps.empty (c:Nat):Stamps #[] c:=by simp[Stamps]
theorem Stamps.push {es:Array MapEntry} {c c':Nat} (h:Stamps es c) (k v:Value) (hc:c<c'):Stamps (es.push { key:=k,val:=v,born:=c }) c':=by
 constructor
 ·intro e he
  simp at he
  rcases he with he|rfl
  ·have:=h.1 e (by simpa using he);omega
  ·simpa using hc
 ·simp only[Array.toList_push,List.map_append,List.map_cons,List.map_nil,List.nodup_append]
  refine⟨h.2,by simp,fun a ha b hb=>?_⟩
  simp at hb
  obtain⟨e,he,rfl⟩:=List.mem_map.1 ha
  have:=h.1 e he
  omega
theorem Stamps.erase {es:Array MapEntry} (h:Stamps es c) (j:Nat):Stamps (es.eraseIdxIfInBounds j) c:=by
 constructor
 ·intro e he
  rw[Array.toList_eraseIdxIfInBounds] at he
  exact h.1 e (List.mem_of_mem_eraseIdx he)
 ·rw[Array.toList_eraseIdxIfInBounds]
  exact List.Nodup.sublist (List.Sublist.map _ (List.eraseIdx_sublist ..)) h.2
theorem Stamps.modify {es:Array MapEntry} {c:Nat} (h:Stamps es c) (j:Nat) (k v:Value):Stamps (es.modify j fun e=>{ e with key:=k,val:=v }) c:=by
 have e1:(es.modify j fun e=>{ e with key:=k,val:=v }).toList.map (·.born)=es.toList.map (·.born):=by
  apply List.ext_getElem?
  intro i
  simp only[List.getElem?_map,Array.getElem?_toList,Array.getElem?_modify]
  split
  ·cases es[i]?<;>rfl
  ·rfl
 constructor
 ·intro e he
  have:e.born∈es.toList.map (·.born):=by rw[<- e1];exact List.mem_map.2 ⟨e,he,rfl⟩
  obtain⟨e2,h2,h3⟩:=List.mem_map.1 this
  rw[<- h3]
  exact h.1 e2 h2
 ·rw[e1];exact h.2
def z0q (kf:α->Value) (vf:β->Value) (w:World) (m:Nat) (l:List (α × β)):Prop :=
 ∃ es c,w.heap[m]?=some (.map es c)/\es.toList.map (fun e=>(e.key,e.val))=l.map (fun x=>(kf x.1,vf x.2))/\Stamps es c/\(l.map Prod.fst).Nodup
def setKV [DecidableEq α] (l:List (α × β)) (k:α) (v:β):List (α × β):=if (l.lookup k).isSome then l.map (fun x=>if x.1=k then (k,v) else x) else l++[(k,v)]
def delKV [DecidableEq α] (l:List (α × β)) (k:α):List (α × β):=l.filter (fun x=>decide (x.1≠k))
theorem lookup_none [DecidableEq α] {l:List (α × β)} {k:α}:l.lookup k=none ↔ ∀ x∈l,x.1≠k:=by
 induction l with
 | nil=>simp
 | cons x l ih =>
  obtain⟨a,b⟩:=x
  simp only[List.lookup_cons]
  by_cases h:k=a
  ·subst h;simp
  ·have h':(k == a)=false:=by simpa using h
   rw[h']
   simp only[ih]
   constructor
   ·intro hh y hy
    rcases List.mem_cons.1 hy with rfl|hy
    ·exact fun e=>h e.symm
    ·exact hh y hy
   ·exact fun hh y hy=>hh y (List.mem_cons_of_mem _ hy)
theorem lookup_at [DecidableEq α] {l:List (α × β)} {k:α} {v:β} (hn:(l.map Prod.fst).Nodup) {j:Nat} (h:l[j]?=some (k,v)):l.lookup k=some v:=by
 induction l generalizing j with
 | nil=>simp at h
 | cons x l ih =>
  obtain⟨a,b⟩:=x
  simp only[List.map_cons,List.nodup_cons] at hn
  simp only[List.lookup_cons]
  cases j with
  | zero=>simp at h;obtain⟨rfl,rfl⟩:=h;simp
  | succ j =>
   have h':l[j]?=some (k,v):=by simpa using h
   have hm:(k,v)∈l:=List.mem_of_getElem? h'
   have hka:(k == a)=false:=by
    simp only[beq_eq_false_iff_ne]
    intro e
    subst e
    exact hn.1 (List.mem_map.2 ⟨_,hm,rfl⟩)
   rw[hka]
   exact ih hn.2 h'
theorem erase_filter [DecidableEq α] {l:List (α × β)} {k:α} {v:β} (hn:(l.map Prod.fst).Nodup) {j:Nat} (h:l[j]?=some (k,v)):l.eraseIdx j=delKV l k:=by
 induction l generalizing j with
 | nil=>simp at h
 | cons x l ih =>
  obtain⟨a,b⟩:=x
  simp only[List.map_cons,List.nodup_cons] at hn
  cases j with
  | zero =>
   simp at h
   obtain⟨rfl,rfl⟩:=h
   simp only[List.eraseIdx_cons_zero,delKV,List.filter_cons,ne_eq,not_true_eq_false,decide_false,Bool.false_eq_true,if_false]
   refine (List.filter_eq_self.2 fun y hy=>?_).symm
   simp only[decide_not,Bool.not_eq_true',decide_eq_false_iff_not]
   exact fun e=>hn.1 (List.mem_map.2 ⟨y,hy,e⟩)
  | succ j =>
   have h':l[j]?=some (k,v):=by simpa using h
   have hm:(k,v)∈l:=List.mem_of_getElem? h'
   have hka:a≠k:=fun e=>hn.1 (List.mem_map.2 ⟨_,hm,e.symm⟩)
   simp only[List.eraseIdx_cons_succ,delKV,List.filter_cons,ne_eq,hka,not_false_eq_true,decide_true,if_true]
   rw[ih hn.2 h']
   rfl
theorem nodup_del [DecidableEq α] {l:List (α × β)} {k:α} (hn:(l.map Prod.fst).Nodup):((delKV l k).map Prod.fst).Nodup :=
 List.Nodup.sublist (List.Sublist.map _ (List.filter_sublist)) hn
theorem nodup_set [DecidableEq α] {l:List (α × β)} {k:α} {v:β} (hn:(l.map Prod.fst).Nodup):((setKV l k v).map Prod.fst).Nodup:=by
 unfold setKV
 split
 ·have:(l.map (fun x=>if x.1=k then (k,v) else x)).map Prod.fst=l.map Prod.fst:=by
   rw[List.map_map]
   refine List.map_congr_left fun x _=>?_
   simp only[Function.comp]
   split
   ·rename_i h;exact h.symm
   ·rfl
  rw[this];exact hn
 ·rename_i h
  have h':l.lookup k=none:=by
   cases hh:l.lookup k with
   | none=>rfl
   | some y=>rw[hh] at h;simp at h
  rw[lookup_none] at h'
  rw[List.map_append,List.nodup_append]
  refine⟨hn,by simp,fun a ha b hb=>?_⟩
  simp at hb
  obtain⟨x,hx,rfl⟩:=List.mem_map.1 ha
  rw[hb]
  exact h' x hx
def setObj (w:World) (m:Nat) (o:Obj):World:={ w with heap:=w.heap.setIfInBounds m o }
theorem Mod.setObj {S:Nat->Prop} {a w:World} (h:Mod S a w) {m:Nat} (hm:S m\/a.heap.size<=m) (o:Obj):Mod S a (setObj w m o) :=
 ⟨h.os,h.tape,h.output,by simpa[Burg.setObj] using h.size,fun k hk hn=>by
  have hne:m≠k:=fun e=>by subst e;rcases hm with hm|hm;exact hn hm;omega
  simp only[Burg.setObj,Array.getElem?_setIfInBounds_ne hne]
  exact h.block k hk hn⟩
theorem heap_setObj {w:World} {m:Nat} {o o':Obj} (h:w.heap[m]?=some o):(setObj w m o').heap[m]?=some o':=by
 have:=lt_of_block h
 simp[setObj,this]
variable {kf:α->Value} {vf:β->Value} {P:Program} {K E T:TypeId} {w:World} {m:Nat} {l:List (α × β)}
theorem z0q.lt (h:z0q kf vf w m l):m<w.heap.size:=by obtain⟨es,c,h1,_⟩:=h;exact lt_of_block h1
theorem z0q.same (h:z0q kf vf w m l) (hb:w'.heap[m]?=w.heap[m]?):z0q kf vf w' m l:=by
 obtain⟨es,c,h1,h2⟩:=h
 exact⟨es,c,hb.trans h1,h2⟩
theorem z0q.alloc (h:z0q kf vf w m l) (o:Obj):z0q kf vf (w.alloc o) m l:=h.same (Below.heap_alloc _ _ _ h.lt)
theorem z0q.setCell (h:z0q kf vf w m l) {a:Addr} (ha:m≠a.block) (v:Value):z0q kf vf (w.setCell a v) m l:=h.same (Below.heap_setCell _ _ _ _ ha)
theorem z0q.mod {S:Nat->Prop} (h:z0q kf vf w m l) (hm:Mod S w w') (hs:¬ S m):z0q kf vf w' m l:=h.same (hm.block m h.lt hs)
theorem z0q.below {B:Nat} (h:z0q kf vf w m l) (hm:Below B w w') (hs:m<B):z0q kf vf w' m l:=h.same (hm.block m hs)
theorem z0q.nodup (h:z0q kf vf w m l):(l.map Prod.fst).Nodup:=by obtain⟨_,_,_,_,_,h⟩:=h;exact h
theorem entry_at {es:List MapEntry} (h:es.map (fun e=>(e.key,e.val))=l.map (fun x=>(kf x.1,vf x.2))) {j:Nat} {e:MapEntry} (he:es[j]?=some e):∃ x,l[j]?=some x/\e.key=kf x.1/\e.val=vf x.2:=by
 have h1:=congrArg (·[j]?) h
 simp only[List.getElem?_map,he,Option.map_some] at h1
 cases hx:l[j]? with
 | none=>rw[hx] at h1;simp at h1
 | some x =>
  rw[hx] at h1
  simp at h1
  exact⟨x,rfl,h1.1,h1.2⟩
theorem entry_of {es:List MapEntry} (h:es.map (fun e=>(e.key,e.val))=l.map (fun x=>(kf x.1,vf x.2))):∀ x∈l,∃ e∈es,e.key=kf x.1:=by
 intro x hx
 have:(kf x.1,vf x.2)∈es.map (fun e=>(e.key,e.val)):=by rw[h];exact List.mem_map.2 ⟨x,hx,rfl⟩
 obtain⟨e,he,heq⟩:=List.mem_map.1 this
 exact⟨e,he,by simpa using congrArg Prod.fst heq⟩
theorem z0q.found [DecidableEq α] (KO:KeyOk P K kf) {es:Array MapEntry} (h:es.toList.map (fun e=>(e.key,e.val))=l.map (fun x=>(kf x.1,vf x.2))) (hn:(l.map Prod.fst).Nodup) (w:World) (k:α) :
 ((Instr.findKey K (kf k) es.toList).run P w=.ok none w/\l.lookup k=none) \/
 ∃ j e v,(Instr.findKey K (kf k) es.toList).run P w=.ok (some (j,vf v)) w/\es[j]?=some e/\e.key=kf k/\l[j]?=some (k,v)/\l.lookup k=some v:=by
 have hall:∀ e∈es.toList,∃ y,e.key=kf y:=fun e he=>by
  obtain⟨j,hj,hje⟩:=List.getElem_of_mem he
  obtain⟨x,_,hx,_⟩:=entry_at h (by rw[List.getElem?_eq_getElem hj,hje])
  exact⟨x.1,hx⟩
 rcases KO.find w k es.toList hall with ⟨h1,h2⟩|⟨j,e,h1,h2,h3⟩
 ·refine .inl ⟨h1,lookup_none.2 fun x hx he=>?_⟩
  obtain⟨e,hm,hk⟩:=entry_of h x hx
  exact h2 e hm (by rw[hk,he])
 ·obtain⟨x,hx,hxk,hxv⟩:=entry_at h h2
  have hk:x.1=k:=KO.inj _ _ (hxk.symm.trans h3)
  obtain⟨x1,x2⟩:=x
  simp at hk
  subst hk
  exact .inr ⟨j,e,x2,by rw[h1,hxv],by simpa using h2,h3,hx,lookup_at hn hx⟩
theorem z0q.lookup [DecidableEq α] (KO:KeyOk P K kf) (hT:P.underlying T=some (.map K E)) {z:Value} (hz:∀ w,(zeroValue E).run P w=.ok z w) (h:z0q kf vf w m l) (k:α) (ok:Bool) :
 (Instr.lookup T (.map (some m)) (kf k) ok).run P w=.ok (if ok then .tuple #[((l.lookup k).map vf).getD z,.bool (l.lookup k).isSome] else ((l.lookup k).map vf).getD z) w:=by
 obtain⟨es,c,h1,h2,h3,h4⟩:=h
 rcases z0q.found KO h2 h4 w k with ⟨hf,hl⟩|⟨j,e,v,hf,_,_,_,hl⟩
 ·simp[Instr.lookup,run_underlying hT,MapKept.run_getObj_map h1,KO.check,hf,hz,hl,Result.andThen]
 ·simp[Instr.lookup,run_underlying hT,MapKept.run_getObj_map h1,KO.check,hf,hl,Result.andThen]
theorem z0q.len (hT:P.underlying T=some (.map K E)) (h:z0q kf vf w m l) (ty:TypeId):(Builtin.len_ #[T] ty #[.map (some m)]).run P w=.ok (.int .i64 l.length) w:=by
 obtain⟨es,c,h1,h2,_⟩:=h
 have hlen:es.size=l.length:=by simpa using congrArg List.length h2
 simp[Builtin.len_,run_underlying hT,MapKept.run_getObj_map h1,Result.andThen,goInt,hlen]
theorem z0q.delete [DecidableEq α] (KO:KeyOk P K kf) (hT:P.underlying T=some (.map K E)) (h:z0q kf vf w m l) (k:α) (ty KT:TypeId) :
 ∃ w',(Builtin.delete_ #[T,KT] ty #[.map (some m),kf k]).run P w=.ok (.tuple #[]) w'/\z0q kf vf w' m (delKV l k)/\Mod (·=m) w w':=by
 obtain⟨es,c,h1,h2,h3,h4⟩:=h
 rcases z0q.found KO h2 h4 w k with ⟨hf,hl⟩|⟨j,e,v,hf,hj,_,hlj,hl⟩
 ·refine⟨Burg.setObj w m (.map es c),?_,⟨es,c,heap_setObj h1,?_,h3,nodup_del h4⟩,Mod.setObj (S:=(·=m)) (Mod.refl _ _) (.inl rfl) _⟩
  ·simp[Builtin.delete_,run_underlying hT,MapKept.run_getObj_map h1,KO.check,hf,MapKept.run_setObj_map _ h1,Result.andThen,Burg.setObj]
  ·have:delKV l k=l:=List.filter_eq_self.2 fun x hx=>by simpa using lookup_none.1 hl x hx
   rw[this];exact h2
 ·refine⟨Burg.setObj w m (.map (es.eraseIdxIfInBounds j) c),?_,⟨_,c,heap_setObj h1,?_,?_,nodup_del h4⟩,Mod.setObj (S:=(·=m)) (Mod.refl _ _) (.inl rfl) _⟩
  ·simp[Builtin.delete_,run_underlying hT,MapKept.run_getObj_map h1,KO.check,hf,MapKept.run_setObj_map _ h1,Result.andThen,Burg.setObj]
  ·have hj':j<es.size:=(Array.getElem?_eq_some_iff.1 hj).1
   rw[<- erase_filter h4 hlj,Array.toList_eraseIdxIfInBounds,ChangeMaps.map_eraseIdx,ChangeMaps.map_eraseIdx,h2]
  ·exact h3.erase j
theorem z0q.store [DecidableEq α] (KO:KeyOk P K kf) (hT:P.underlying T=some (.map K E)) (h:z0q kf vf w m l) (k:α) (v:β) :
 ∃ w',(Instr.mapUpdate T (.map (some m)) (kf k) (vf v)).run P w=.ok () w'/\z0q kf vf w' m (setKV l k v)/\Mod (·=m) w w':=by
 obtain⟨es,c,h1,h2,h3,h4⟩:=h
 rcases z0q.found KO h2 h4 w k with ⟨hf,hl⟩|⟨j,e,v0,hf,hj,hk,hlj,hl⟩
 ·refine⟨Burg.setObj w m (.map (es.push { key:=kf k,val:=vf v,born:=c }) (c+1)),?_,⟨_,_,heap_setObj h1,?_,?_,nodup_set h4⟩,Mod.setObj (S:=(·=m)) (Mod.refl _ _) (.inl rfl) _⟩
  ·simp[Instr.mapUpdate,run_underlying hT,MapKept.run_getObj_map h1,KO.check,hf,MapKept.run_setObj_map _ h1,Result.andThen,Burg.setObj]
  ·simp[setKV,hl,h2]
  ·exact h3.push _ _ (by omega)
 ·have hj':j<es.size:=(Array.getElem?_eq_some_iff.1 hj).1
  refine⟨Burg.setObj w m (.map (es.modify j fun e=>{ e with key:=kf k,val:=vf v }) c),?_,⟨_,_,heap_setObj h1,?_,?_,nodup_set h4⟩,Mod.setObj (S:=(·=m)) (Mod.refl _ _) (.inl rfl) _⟩
  ·simp[Instr.mapUpdate,run_underlying hT,MapKept.run_getObj_map h1,KO.check,hf,hj,hk,KO.stays,MapKept.run_setObj_map _ h1,Result.andThen,Burg.setObj]
  ·simp only[setKV,hl,Option.isSome_some,if_true]
   apply List.ext_getElem?
   intro i
   have h5:=congrArg (·[i]?) h2
   simp only[List.getElem?_map] at h5 ⊢
   by_cases hij:j=i
   ·subst hij
    simp[hj,hlj]
   ·have h6:(es.modify j fun e=>{ e with key:=kf k,val:=vf v }).toList[i]?=es.toList[i]?:=by
     simp[hij]
    rw[h6,h5]
    cases hx:l[i]? with
    | none=>simp
    | some x =>
     have hne:x.1≠k:=fun he=>by
      have h7:(l.map Prod.fst)[i]?=(l.map Prod.fst)[j]?:=by simp[hx,hlj,he]
      have hi':i<(l.map Prod.fst).length:=by
       have:=(List.getElem?_eq_some_iff.1 hx).1
       simpa using this
      exact hij (((List.getElem?_inj hi' h4).1 h7).symm)
     simp[hne]
  ·exact h3.modify j _ _
theorem z0q.new {t:TypeId} (w:World):∃ w',(Instr.makeMap t none).run P w=.ok (.map (some w.heap.size)) w'/\w'=w.alloc (.map #[] 0)/\z0q kf vf w' w.heap.size ([]:List (α × β)) :=
 ⟨w.alloc (.map #[] 0),by simp[Instr.makeMap,Result.andThen],rfl,#[],0,z0a _ _,by simp,by simp,by simp⟩
def MapNew (kf:α->Value) (vf:β->Value) (w:World) (m:Nat) (l:List (α × β)) (k:α) (v:β) (s:Nat):Prop :=
 ∃ (es:Array MapEntry) (c:Nat),w.heap[m]?=some (.map (es.push { key:=kf k,val:=vf v,born:=s }) c)/\es.toList.map (fun e=>(e.key,e.val))=l.map (fun x=>(kf x.1,vf x.2))/\Stamps es s/\s<c/\((l++[(k,v)]).map Prod.fst).Nodup
def ClockAt (w:World) (m:Nat) (c:Nat):Prop:=∃ es,w.heap[m]?=some (.map es c)
theorem ClockAt.same (h:ClockAt w m c) (hb:w'.heap[m]?=w.heap[m]?):ClockAt w' m c:=by obtain⟨es,h1⟩:=h;exact⟨es,hb.trans h1⟩
theorem z0q.clock (h:z0q kf vf w m l):∃ c,ClockAt w m c:=by obtain⟨es,c,h1,_⟩:=h;exact⟨c,es,h1⟩
theorem MapNew.same {k:α} {v:β} (h:MapNew kf vf w m l k v s) (hb:w'.heap[m]?=w.heap[m]?):MapNew kf vf w' m l k v s:=by
 obtain⟨es,c,h1,h2⟩:=h
 exact⟨es,c,hb.trans h1,h2⟩
theorem z0q.entry [DecidableEq α] (KO:KeyOk P K kf) (hT:P.underlying T=some (.map K E)) {z:β} (hz:∀ w,(zeroValue E).run P w=.ok (vf z) w) (h:z0q kf vf w m l) {s:Nat} (hc:ClockAt w m s) (k:α) (hk:l.lookup k=none) :
 ∃ w',(Instr.mapEntry T (.map (some m)) (kf k)).run P w=.ok (.tuple #[vf z,.int .i64 s]) w'/\MapNew kf vf w' m l k z s/\Mod (·=m) w w':=by
 obtain⟨es,c,h1,h2,h3,h4⟩:=h
 obtain⟨es',h1'⟩:=hc
 rw[h1] at h1'
 obtain⟨rfl,rfl⟩:es=es'/\c=s:=by simpa using h1'
 rcases z0q.found KO h2 h4 w k with ⟨hf,hl⟩|⟨j,e,v0,hf,hj,hk',hlj,hl⟩
 ·refine⟨Burg.setObj w m (.map (es.push { key:=kf k,val:=vf z,born:=c }) (c+1)),?_,⟨es,c+1,heap_setObj h1,h2,h3,by omega,?_⟩,Mod.setObj (S:=(·=m)) (Mod.refl _ _) (.inl rfl) _⟩
  ·simp[Instr.mapEntry,run_underlying hT,MapKept.run_getObj_map h1,KO.check,hf,hz,MapKept.run_setObj_map _ h1,Result.andThen,Burg.setObj,goInt]
  ·rw[List.map_append,List.nodup_append]
   refine⟨h4,by simp,fun a ha b hb=>?_⟩
   simp at hb
   obtain⟨x,hx,rfl⟩:=List.mem_map.1 ha
   rw[hb]
   exact lookup_none.1 hl x hx
 ·rw[hk] at hl;cases hl
theorem MapNew.fill {k:α} {v:β} (h:MapNew kf vf w m l k v s) (v':β) :
 ∃ w',(Instr.entryStore T (.map (some m)) (.int .i64 s) (vf v')).run P w=.ok () w'/\z0q kf vf w' m (l++[(k,v')])/\Mod (·=m) w w':=by
 obtain⟨es,c,h1,h2,h3,h4,h5⟩:=h
 have hidx:(es.push { key:=kf k,val:=vf v,born:=s }).findIdx? (fun e=>(e.born:Int) == (s:Int))=some es.size:=by
  rw[Array.findIdx?_eq_some_iff_getElem]
  refine⟨by simp,by simp,fun j hj=>?_⟩
  have:=h3.1 es[j] (by simp)
  simp only[Array.getElem_push_lt hj]
  simp
  omega
 refine⟨Burg.setObj w m (.map ((es.push { key:=kf k,val:=vf v,born:=s }).modify es.size fun e=>{ e with val:=vf v' }) c),?_,⟨_,c,heap_setObj h1,?_,?_,?_⟩,Mod.setObj (S:=(·=m)) (Mod.refl _ _) (.inl rfl) _⟩
 ·simp[Instr.entryStore,asInt,asIntOf,MapKept.run_getObj_map h1,hidx,MapKept.run_setObj_map _ h1,Result.andThen,Burg.setObj]
 ·have:((es.push { key:=kf k,val:=vf v,born:=s }).modify es.size fun e=>{ e with val:=vf v' })=es.push { key:=kf k,val:=vf v',born:=s }:=by
   apply Array.ext
   ·simp
   ·intro i h6 h7
    simp only[Array.getElem_modify,Array.getElem_push]
    split
    ·rename_i he;subst he;simp
    ·rename_i he
     have hlt:i<es.size:=by simp at h7;omega
     simp[hlt]
  rw[this]
  simp[h2]
 ·have:((es.push { key:=kf k,val:=vf v,born:=s }).modify es.size fun e=>{ e with val:=vf v' })=((es.push { key:=kf k,val:=vf v,born:=s }).modify es.size fun e=>{ e with key:=kf k,val:=vf v' }):=by
   apply Array.ext
   ·simp
   ·intro i h6 h7
    simp only[Array.getElem_modify,Array.getElem_push]
    split
    ·rename_i he;subst he;simp
    ·rfl
  rw[this]
  exact (h3.push _ _ h4).modify _ _ _
 ·simpa using h5
end
section
variable {α β:Type} {kf:α->Value} {vf:β->Value} {P:Program} {K E T:TypeId} {w:World} {m:Nat} {l:List (α × β)}
variable {ops:Array Oper} {rest:List Oper} {o:Oper} {a:Act} {Q:Exit->Act->World->Prop}
theorem wpList_lookup_map [DecidableEq α] (hg:o.guard=none) (M X:Operand) (T:TypeId) (ok:Bool) (hop:o.op=Op.lookup T M X ok) (KO:KeyOk P K kf) (hT:P.underlying T=some (.map K E))
 {z:Value} (hz:∀ w,(zeroValue E).run P w=.ok z w) (hM:a.eval M=.map (some m)) (k:α) (hX:a.eval X=kf k) (h:z0q kf vf w m l)
 (hK:wpList P ops Q rest (a.put o.dst (if ok then .tuple #[((l.lookup k).map vf).getD z,.bool (l.lookup k).isSome] else ((l.lookup k).map vf).getD z)) w):wpList P ops Q (o :: rest) a w:=by
 refine wpList_plain hg fun K' hK'=>?_
 unfold Oper.wp
 simp[execOp,hop,hM,hX,h.lookup KO hT hz k ok,Result.andThen]
 exact hK' _ _ hK
theorem wpList_delete_map [DecidableEq α] (hg:o.guard=none) (M X:Operand) (T KT:TypeId) (hop:o.op=Op.call { callee:=Callee.builtin Builtin.delete,args:=#[M,X],argTypes:=#[T,KT] }) (KO:KeyOk P K kf)
 (hT:P.underlying T=some (.map K E)) (hM:a.eval M=.map (some m)) (k:α) (hX:a.eval X=kf k) (h:z0q kf vf w m l)
 (hK:∀ w',z0q kf vf w' m (delKV l k)->Mod (·=m) w w'->wpList P ops Q rest (a.put o.dst (.tuple #[])) w'):wpList P ops Q (o :: rest) a w:=by
 refine wpList_plain hg fun K' hK'=>?_
 obtain⟨w',hrun,r1,r2⟩:=h.delete KO hT k o.type KT
 unfold Oper.wp
 simp[execOp,hop,resolve,invoke,builtin,hM,hX,hrun,Result.andThen]
 exact hK' _ _ (hK w' r1 r2)
theorem wpList_store_map [DecidableEq α] (hg:o.guard=none) (M X V:Operand) (T:TypeId) (hop:o.op=Op.mapUpdate T M X V) (KO:KeyOk P K kf)
 (hT:P.underlying T=some (.map K E)) (hM:a.eval M=.map (some m)) (k:α) (hX:a.eval X=kf k) (v:β) (hV:a.eval V=vf v) (h:z0q kf vf w m l)
 (hK:∀ w',z0q kf vf w' m (setKV l k v)->Mod (·=m) w w'->wpList P ops Q rest (a.put o.dst undef) w'):wpList P ops Q (o :: rest) a w:=by
 refine wpList_plain hg fun K' hK'=>?_
 obtain⟨w',hrun,r1,r2⟩:=h.store KO hT k v
 unfold Oper.wp
 simp[execOp,hop,hM,hX,hV,hrun,Result.andThen]
 exact hK' _ _ (hK w' r1 r2)
theorem wpList_entry_map [DecidableEq α] (hg:o.guard=none) (M X:Operand) (T:TypeId) (hop:o.op=Op.mapEntry T M X) (KO:KeyOk P K kf)
 (hT:P.underlying T=some (.map K E)) {z:β} (hz:∀ w,(zeroValue E).run P w=.ok (vf z) w) (hM:a.eval M=.map (some m)) (k:α) (hX:a.eval X=kf k) (h:z0q kf vf w m l) {s:Nat} (hc:ClockAt w m s) (hk:l.lookup k=none)
 (hK:∀ w',MapNew kf vf w' m l k z s->Mod (·=m) w w'->wpList P ops Q rest (a.put o.dst (.tuple #[vf z,.int .i64 s])) w'):wpList P ops Q (o :: rest) a w:=by
 refine wpList_plain hg fun K' hK'=>?_
 obtain⟨w',hrun,r1,r2⟩:=h.entry KO hT hz hc k hk
 unfold Oper.wp
 simp[execOp,hop,hM,hX,hrun,Result.andThen]
 exact hK' _ _ (hK w' r1 r2)
theorem wpList_fill_map (hg:o.guard=none) (M S V:Operand) (T:TypeId) (hop:o.op=Op.entryStore T M S V) (hM:a.eval M=.map (some m)) {k:α} {v:β} {s:Nat} (hS:a.eval S=.int .i64 s) (v':β) (hV:a.eval V=vf v')
 (h:MapNew kf vf w m l k v s) (hK:∀ w',z0q kf vf w' m (l++[(k,v')])->Mod (·=m) w w'->wpList P ops Q rest (a.put o.dst undef) w'):wpList P ops Q (o :: rest) a w:=by
 refine wpList_plain hg fun K' hK'=>?_
 obtain⟨w',hrun,r1,r2⟩:=h.fill (P:=P) (T:=T) v'
 unfold Oper.wp
 simp[execOp,hop,hM,hS,hV,hrun,Result.andThen]
 exact hK' _ _ (hK w' r1 r2)
end
theorem KeyOk.ofLaw {α:Type} {P:Program} {K:TypeId} {kf:α->Value} (KL:WideMaps.KeyLaw P K) (hk:∀ x,∃ l,keyOf P K (kf x)=some l) (hi:∀ x y,kf x=kf y->x=y):KeyOk P K kf where
 check w em x:=by obtain⟨l,hl⟩:=hk x;exact KL.check w em hl
 find w x es hes:=by
  obtain⟨l,hl⟩:=hk x
  exact KL.find w hl es (fun e he=>by obtain⟨y,hy⟩:=hes e he;rw[hy];exact hk y)
 stays w x:=by obtain⟨l,hl⟩:=hk x;exact KL.stays w hl
 inj:=hi
end Go.Burg
namespace Go.Proofs.YtgdmfledhhoedaaGreatDoor
open Go.Burg
abbrev RefK:={ r:Int × Int // (Lit.int .i64 r.1).wf=true/\(Lit.int .u32 r.2).wf=true }
def refV (r:RefK):Value:=.agg #[.int .i64 r.1.1,.int .u32 r.1.2]
theorem ref_lits (n:Nat) (r:RefK):Tryz.prog.keyLits (n+2) 36 [.int .i64 r.1.1,.int .u32 r.1.2]=some [.int .i64 r.1.1,.int .u32 r.1.2]:=by
 have c1:Tryz.prog.cellsOf 36=2:=by kernel_rfl
 have c2:Tryz.prog.cellsOf 3=1:=by kernel_rfl
 have c3:Tryz.prog.cellsOf 34=1:=by kernel_rfl
 simp[Program.keyLits,Tryz.underlying36,Tryz.underlying3,Tryz.underlying34,c1,c2,c3,r.2.1,r.2.2]
theorem ref_key (r:RefK):∃ l,keyOf Tryz.prog 36 (refV r)=some l:=by
 have c1:Tryz.prog.cellsOf 36=2:=by kernel_rfl
 have hk:Tryz.prog.keyType 36=true:=of_decide_eq_true (by kernel_rfl)
 have h1:1<=Tryz.prog.types.size:=of_decide_eq_true (by kernel_rfl)
 obtain⟨n,hn⟩:∃ n,Tryz.prog.types.size+1=n+2:=⟨Tryz.prog.types.size - 1,by omega⟩
 refine⟨.string (keyBytes [.int .i64 r.1.1,.int .u32 r.1.2]),?_⟩
 unfold keyOf
 simp only[Tryz.underlying36,hk,hn]
 simp[refV,Value.formed,Tryz.underlying36,c1,Value.cells,ref_lits]
theorem refKey:KeyOk Tryz.prog 36 refV:=by
 refine KeyOk.ofLaw (deep_law_gate (by kernel_rfl) (of_decide_eq_true (by kernel_rfl)) (of_decide_eq_true (by kernel_rfl)) (by kernel_rfl) (by kernel_rfl)) ref_key (fun x y h=>?_)
 obtain⟨⟨a,b⟩,hx⟩:=x
 obtain⟨⟨c,d⟩,hy⟩:=y
 simp[refV] at h
 exact Subtype.ext (Prod.ext h.1 h.2)
end Go.Proofs.YtgdmfledhhoedaaGreatDoor
namespace Go.Burg
open Go Go.RowKit
variable {w':World}
section
variable {α β:Type} {kf:α->Value} {vf:β->Value} {P:Program} {K E T:TypeId} {w:World} {m r:Nat} {l left:List (α × β)}
def IterOf (kf:α->Value) (vf:β->Value) (w:World) (m r:Nat) (left:List (α × β)):Prop :=
 ∃ es c since seen c0,w.heap[m]?=some (.map es c)/\Stamps es c/\w.heap[r]?=some (.mapIter (some m) since seen c0)/\(∀ x∈es.toList,x.born<since)/\since<=c0/\since<=c /\
  (leftOf es seen).toList.map (fun e=>(e.key,e.val))=left.map (fun x=>(kf x.1,vf x.2))
theorem IterOf.same (h:IterOf kf vf w m r left) (h1:w'.heap[m]?=w.heap[m]?) (h2:w'.heap[r]?=w.heap[r]?):IterOf kf vf w' m r left:=by
 obtain⟨es,c,since,seen,c0,a1,a2,a3,a4⟩:=h
 exact⟨es,c,since,seen,c0,h1.trans a1,a2,h2.trans a3,a4⟩
theorem IterOf.lt (h:IterOf kf vf w m r left):m<w.heap.size/\r<w.heap.size:=by
 obtain⟨es,c,since,seen,c0,a1,a2,a3,a4⟩:=h
 exact⟨lt_of_block a1,lt_of_block a3⟩
theorem IterOf.keep (h:IterOf kf vf w m r left) (hb:Below w.heap.size w w'):IterOf kf vf w' m r left:=h.same (hb.block _ h.lt.1) (hb.block _ h.lt.2)
end
end Go.Burg
namespace Go.Proofs.YtgdmfledhhoedaaGreatDoor.K
set_option maxRecDepth 8000
open Go.ChangeShapes Go.WideShapes Go.ChangeAt Go.RowKit Go.Burg
open Go.Burg.Lk
def lkp {α β:Type} [DecidableEq α] (l:List (α × β)) (k:α):Option β:=l.lookup k
def LBlk (mp:Option Nat) (tk:Int):Obj:=.cells #[.map mp,.int .i64 tk] 188 (0,0)
def z1r (w:World) (b m:Nat) (l:List (RefK × Wd)) (tk:Int):Prop:=w.heap[b]?=some (LBlk (some m) tk)/\z0q refV wV w m l
theorem z1r.lt {w:World} {b m:Nat} {l:List (RefK × Wd)} {tk:Int} (h:z1r w b m l tk):b<w.heap.size/\m<w.heap.size:=⟨lt_of_block h.1,h.2.lt⟩
variable {tk:Int} {l:List (RefK × Wd)} {b m:Nat} {w:World}
theorem z1r.ne (h:z1r w b m l tk):b≠m:=fun e=>by
 obtain⟨es,c,h1,_⟩:=h.2
 have h2:=h.1
 subst e
 rw[h2] at h1
 cases h1
theorem z1r.below {w w':World} {b m B:Nat} {l:List (RefK × Wd)} {tk:Int} (h:z1r w b m l tk) (hb:Below B w w') (h1:b<B) (h2:m<B):z1r w' b m l tk:=⟨z0b h.1 hb h1,h.2.below hb h2⟩
theorem z1r.keep {w':World} (h:z1r w b m l tk) (hb:Below w.heap.size w w'):z1r w' b m l tk:=h.below hb h.lt.1 h.lt.2
theorem z1r.alloc {w:World} {b m:Nat} {l:List (RefK × Wd)} {tk:Int} (h:z1r w b m l tk) (o:Obj):z1r (w.alloc o) b m l tk:=⟨z0c h.1,h.2.alloc o⟩
theorem z1r.mod {w w':World} {b m:Nat} {l:List (RefK × Wd)} {tk:Int} {S:Nat->Prop} (h:z1r w b m l tk) (hM:Mod S w w') (h1:¬ S b) (h2:¬ S m):z1r w' b m l tk:=⟨(hM.block b h.lt.1 h1).trans h.1,h.2.mod hM h2⟩
def Own (b m:Nat) (i:Nat):Prop:=i=b\/i=m
theorem lfacts {mp:Option Nat} (h:w.heap[b]?=some (LBlk mp tk)) :
 w.cell? ⟨b,0,none⟩=some (.map mp)/\w.cell? ⟨b,1,none⟩=some (.int .i64 tk)/\(∀ i,w.frozen? ⟨b,i,none⟩=false)/\b<w.heap.size:=by
 have hc:=cell_of h
 exact⟨hc 0,hc 1,z0e h,lt_of_block h⟩
theorem zeroWord (w:World):(zeroValue 206).run Tryz.prog w=.ok (wV ⟨0,by omega,by omega⟩) w:=by kernel_rfl
def w0:Wd:=⟨0,by omega,by omega⟩
theorem lk_run (h:z0q refV wV w m l) (r:RefK) :
 (Instr.lookup 184 (.map (some m)) (.agg #[.int .i64 r.1.1,.int .u32 r.1.2]) true).run Tryz.prog w=.ok (.tuple #[.int .u64 ((lkp l r).getD w0).1,.bool (lkp l r).isSome]) w:=by
 have:=h.lookup refKey Tryz.underlying184 zeroWord r true
 cases ho:lkp l r<;>unfold lkp at ho<;>rw[ho] at this<;>exact this
theorem there_yes (b m:Nat) (tk:Int) (w:World) (h:w.heap[b]?=some (LBlk (some m) tk)):Calls Tryz.prog 99 #[.pointer (some ⟨b,0,none⟩)] w fun e w'=>e=.returned (.bool true)/\w=w':=by
 obtain⟨c0,c1,cf,cl⟩:=lfacts h
 have qT:∀ (w:World) (r:Option Nat),(binOp .neq 184 (.map r) (.map none)).run Tryz.prog w=.ok (.bool (!r.isNone)) w:=fun w r=>run_neq_map_nil w _ _ _ r Tryz.underlying184
 go_enter Tryz.func99,Tryz.ntmps99
 go_wp2
 go_ret
 exact⟨rfl,rfl⟩
section
variable {w:World} {b m:Nat} {l:List (RefK × Wd)} {tk:Int}
theorem boxed (h:z1r w b m l tk) (r:RefK):z1r (w.alloc (.cells #[.int .i64 r.1.1,.int .u32 r.1.2] 36)) b m l tk/\(w.alloc (.cells #[.int .i64 r.1.1,.int .u32 r.1.2] 36)).heap[w.heap.size]?=some (.cells #[.int .i64 r.1.1,.int .u32 r.1.2] 36):=⟨h.alloc _,z0a _ _⟩
end
end Go.Proofs.YtgdmfledhhoedaaGreatDoor.K
namespace Go.Burg.Lk
def Wd.only (y x:Wd):Wd × Bool:=if x=y then x.lock else (x,false)
end Go.Burg.Lk
namespace Go.Proofs.YtgdmfledhhoedaaGreatDoor.K
set_option maxRecDepth 8000
open Go.ChangeShapes Go.WideShapes Go.ChangeAt Go.RowKit Go.Burg
open Go.Burg.Lk
theorem new_at (w:World):Calls Tryz.prog 54 #[] w fun e w'=>∃ b m,e=.returned (.pointer (some ⟨b,0,none⟩))/\z1r w' b m [] 0/\w.heap.size<=b/\w.heap.size<=m/\Below w.heap.size w w':=by
 have hmm:=@run_makeMap Tryz.prog
 go_enter Tryz.func54,Tryz.ntmps54
 go_wp2
 go_ret
 refine⟨w.heap.size+1,w.heap.size,rfl,⟨?_,?_⟩,by omega,by omega,by (repeat (first|exact Below.refl _ _|assumption|with_reducible refine Below.drew ?_|with_reducible refine below_drewN ?_|with_reducible refine Below.setCell ?_ (by first|(simp;done)|(simp;omega)) _|with_reducible refine Below.alloc ?_ (by first|exact Nat.le_refl _|(simp;done)|(simp;omega)) _))⟩
 ·simpa[LBlk] using z0a (w.alloc (.map #[] 0)) (LBlk (some w.heap.size) 0)
 ·exact z0q.alloc ⟨#[],0,z0a _ _,by simp,by simp,by simp⟩ _
def okRef (r:RefK):Bool:=decide (0<=r.1.1) && decide (r.1.1<4096) && decide (1<=r.1.2)
def addL (l:List (RefK × Wd)) (r:RefK):Int × List (RefK × Wd):=if okRef r then (if (lkp l r).isSome then (8,l) else (0,l++[(r,w0)])) else (2,l)
def goneL (l:List (RefK × Wd)) (r:RefK):Int × List (RefK × Wd):=if (lkp l r).isSome then (0,delKV l r) else (5,l)
section
variable {w:World} {b m:Nat} {l:List (RefK × Wd)} {tk:Int}
theorem set_new {r:RefK} (h:(lkp l r).isSome=false):setKV l r w0=l++[(r,w0)]:=by
 unfold lkp at h
 unfold setKV
 rw[h]
 rfl
theorem add_at (h:z1r w b m l tk) (r:RefK):Calls Tryz.prog 70 #[.pointer (some ⟨b,0,none⟩),.agg #[.int .i64 r.1.1,.int .u32 r.1.2]] w fun e w'=>e=.returned (.int .i64 (addL l r).1)/\z0q refV wV w' m (addL l r).2/\Mod (·=m) w w':=by
 obtain⟨hA,hN⟩:=boxed h r
 obtain⟨c0,c1,cf,cl⟩:=lfacts hA.1
 have hL:∀ n,(Instr.lookup 184 (.map (some m)) (.agg #[.int .i64 r.1.1,.int .u32 r.1.2]) true).run Tryz.prog ((w.alloc (.cells #[.int .i64 r.1.1,.int .u32 r.1.2] 36)).drewN n)=.ok (.tuple #[.int .u64 ((lkp l r).getD w0).1,.bool (lkp l r).isSome]) ((w.alloc (.cells #[.int .i64 r.1.1,.int .u32 r.1.2] 36)).drewN n):=fun n=>lk_run (hA.2.same (by simp)) r
 have HT:=hid (there_yes b m tk _ hA.1)
 have HL:=hid h
 have hlt:=h.lt
 have hne:=h.ne
 clear h
 unfold addL okRef
 generalize hs:(lkp l r).isSome=s at hL
 generalize (lkp l r).getD w0=y at hL
 cases h1:decide (0<=r.1.1)
 ·have g1:decide (r.1.1<0)=true:=by simp at h1 ⊢;omega
  simp only[Bool.false_and,Bool.false_eq_true,if_false]
  clear hs h1
  go_enter Tryz.func70,Tryz.ntmps70
  go_wp2_with (go_at_call 99;refine HT.out.mono ?_;rintro e w' ⟨rfl,rfl⟩)
  go_quiet (fail)
  go_wp2
  go_ret
  exact⟨rfl,HL.out.2.below (by (repeat (first|exact Below.refl _ _|assumption|with_reducible refine Below.drew ?_|with_reducible refine below_drewN ?_|with_reducible refine Below.setCell ?_ (by first|(simp;done)|(simp;omega)) _|with_reducible refine Below.alloc ?_ (by first|exact Nat.le_refl _|(simp;done)|(simp;omega)) _))) hlt.2,Mod.z0j (by (repeat (first|exact Below.refl _ _|assumption|with_reducible refine Below.drew ?_|with_reducible refine below_drewN ?_|with_reducible refine Below.setCell ?_ (by first|(simp;done)|(simp;omega)) _|with_reducible refine Below.alloc ?_ (by first|exact Nat.le_refl _|(simp;done)|(simp;omega)) _)))⟩
 have g1:decide (r.1.1<0)=false:=by simp at h1 ⊢;omega
 cases h2:decide (r.1.1<4096)
 ·have g2:decide (r.1.1>=4096)=true:=by simp at h2 ⊢;omega
  simp only[Bool.and_false,Bool.false_and,Bool.false_eq_true,if_false]
  clear hs h1 h2
  go_enter Tryz.func70,Tryz.ntmps70
  go_wp2_with (go_at_call 99;refine HT.out.mono ?_;rintro e w' ⟨rfl,rfl⟩)
  go_quiet (fail)
  go_wp2
  go_ret
  exact⟨rfl,HL.out.2.below (by (repeat (first|exact Below.refl _ _|assumption|with_reducible refine Below.drew ?_|with_reducible refine below_drewN ?_|with_reducible refine Below.setCell ?_ (by first|(simp;done)|(simp;omega)) _|with_reducible refine Below.alloc ?_ (by first|exact Nat.le_refl _|(simp;done)|(simp;omega)) _))) hlt.2,Mod.z0j (by (repeat (first|exact Below.refl _ _|assumption|with_reducible refine Below.drew ?_|with_reducible refine below_drewN ?_|with_reducible refine Below.setCell ?_ (by first|(simp;done)|(simp;omega)) _|with_reducible refine Below.alloc ?_ (by first|exact Nat.le_refl _|(simp;done)|(simp;omega)) _)))⟩
 have g2:decide (r.1.1>=4096)=false:=by simp at h2 ⊢;omega
 cases h3:decide (1<=r.1.2)
 ·have g3:decide (r.1.2<1)=true:=by simp at h3 ⊢;omega
  simp only[Bool.and_false,Bool.false_eq_true,if_false]
  clear hs h1 h2 h3
  go_enter Tryz.func70,Tryz.ntmps70
  go_wp2_with (go_at_call 99;refine HT.out.mono ?_;rintro e w' ⟨rfl,rfl⟩)
  go_quiet (fail)
  go_wp2
  go_ret
  exact⟨rfl,HL.out.2.below (by (repeat (first|exact Below.refl _ _|assumption|with_reducible refine Below.drew ?_|with_reducible refine below_drewN ?_|with_reducible refine Below.setCell ?_ (by first|(simp;done)|(simp;omega)) _|with_reducible refine Below.alloc ?_ (by first|exact Nat.le_refl _|(simp;done)|(simp;omega)) _))) hlt.2,Mod.z0j (by (repeat (first|exact Below.refl _ _|assumption|with_reducible refine Below.drew ?_|with_reducible refine below_drewN ?_|with_reducible refine Below.setCell ?_ (by first|(simp;done)|(simp;omega)) _|with_reducible refine Below.alloc ?_ (by first|exact Nat.le_refl _|(simp;done)|(simp;omega)) _)))⟩
 have g3:decide (r.1.2<1)=false:=by simp at h3 ⊢;omega
 simp only[Bool.and_true,if_true]
 clear h1 h2 h3
 cases s
 ·have HS:=hid (set_new hs)
  clear hs
  simp only[Bool.false_eq_true,if_false]
  go_enter Tryz.func70,Tryz.ntmps70
  go_wp2_with (go_at_call 99;refine HT.out.mono ?_;rintro e w' ⟨rfl,rfl⟩)
  go_quiet (fail)
  go_wp2
  have hB:Below w.heap.size w (((w.alloc (.cells #[.int .i64 r.1.1,.int .u32 r.1.2] 36)).drewN nq)):=by (repeat (first|exact Below.refl _ _|assumption|with_reducible refine Below.drew ?_|with_reducible refine below_drewN ?_|with_reducible refine Below.setCell ?_ (by first|(simp;done)|(simp;omega)) _|with_reducible refine Below.alloc ?_ (by first|exact Nat.le_refl _|(simp;done)|(simp;omega)) _))
  have hN2:(((w.alloc (.cells #[.int .i64 r.1.1,.int .u32 r.1.2] 36)).drewN nq)).heap[w.heap.size]?=some (.cells #[.int .i64 r.1.1,.int .u32 r.1.2] 36):=hN
  have HN:=hid hN2
  have HP:=hid (HL.out.keep hB)
  have HB:=hid hB
  have hz2:w.heap.size<(((w.alloc (.cells #[.int .i64 r.1.1,.int .u32 r.1.2] 36)).drewN nq)).heap.size:=lt_of_block HN.out
  clear hL hA hN hN2 c0 c1 cf cl hB HT
  generalize ((w.alloc (.cells #[.int .i64 r.1.1,.int .u32 r.1.2] 36)).drewN nq)=w2 at *
  refine z0f 7 (Turn 6 (fun w1=>Below w2.heap.size w2 w1) (fun w1=>z0q refV wV w1 m (setKV l r w0)/\Mod (·=m) w2 w1)) (by kernel_rfl) (by kernel_rfl) (by kernel_rfl) (Turn.start ⟨rfl,rfl,rfl,Nat.le_refl _,fun _ _=>rfl⟩) ?_
  dsimp only[List.take]
  iterate 6
   refine Seq.calm (a':=?_) (by decide) ?_ ?_ ?_
   rotate_left
   ·intro w1 hw1
    have hk:w1.heap[b]?=some (LBlk (some m) tk)/\w1.heap[w.heap.size]?=some (.cells #[.int .i64 r.1.1,.int .u32 r.1.2] 36):=by
     rcases hw1 with h|h
     ·exact⟨z0b HP.out.1 h HP.out.lt.1,z0b HN.out h hz2⟩
     ·exact⟨(h.2.block _ HP.out.lt.1 hne).trans HP.out.1,(h.2.block _ hz2 (by omega)).trans HN.out⟩
    have n0:=cell_of hk.2 0
    have n1:=cell_of hk.2 1
    obtain⟨c0,c1,cf,cl⟩:=lfacts hk.1
    clear hk hw1
    go_wp2_with (fail)
    refine⟨?_,id,id⟩
    exact rfl
   ·kernel_rfl
  refine Seq.turn (a':=?_) ?_ ?_ ?_
  rotate_left
  ·intro w1 hw1
   have hM1:=HP.out.2.below hw1 HP.out.lt.2
   have HB1:=hid hw1
   clear hw1
   refine wpList_store_map rfl _ _ _ _ rfl refKey Tryz.underlying184 rfl r rfl w0 rfl hM1 ?_
   intro w3 hM3 hX3
   refine⟨?_,hM3,(Mod.z0j (S:=(·=m)) HB1.out).trans hX3 (fun _ _ h=>h)⟩
   exact rfl
  ·kernel_rfl
  iterate 0
   refine Seq.calm (a':=?_) (by decide) ?_ ?_ ?_
   rotate_left
   ·intro w1 hw1
    have hk:w1.heap[b]?=some (LBlk (some m) tk)/\w1.heap[w.heap.size]?=some (.cells #[.int .i64 r.1.1,.int .u32 r.1.2] 36):=by
     rcases hw1 with h|h
     ·exact⟨z0b HP.out.1 h HP.out.lt.1,z0b HN.out h hz2⟩
     ·exact⟨(h.2.block _ HP.out.lt.1 hne).trans HP.out.1,(h.2.block _ hz2 (by omega)).trans HN.out⟩
    have n0:=cell_of hk.2 0
    have n1:=cell_of hk.2 1
    obtain⟨c0,c1,cf,cl⟩:=lfacts hk.1
    clear hk hw1
    go_wp2_with (fail)
    refine⟨?_,id,id⟩
    exact rfl
   ·kernel_rfl
  refine SeqI.nil ?_
  intro D w1 hD hI
  replace hI:=hI.done (hD 6 (by omega))
  clear hD
  dsimp only[List.drop]
  go_wp2_with fail
  go_ret
  rw[HS.out] at hI
  exact⟨rfl,hI.1,(Mod.z0j (S:=(·=m)) HB.out).trans hI.2 (fun _ _ h=>h)⟩
 ·clear hs
  simp only[if_true]
  go_enter Tryz.func70,Tryz.ntmps70
  go_wp2_with (go_at_call 99;refine HT.out.mono ?_;rintro e w' ⟨rfl,rfl⟩)
  go_quiet (fail)
  go_wp2
  go_ret
  exact⟨rfl,HL.out.2.below (by (repeat (first|exact Below.refl _ _|assumption|with_reducible refine Below.drew ?_|with_reducible refine below_drewN ?_|with_reducible refine Below.setCell ?_ (by first|(simp;done)|(simp;omega)) _|with_reducible refine Below.alloc ?_ (by first|exact Nat.le_refl _|(simp;done)|(simp;omega)) _))) hlt.2,Mod.z0j (by (repeat (first|exact Below.refl _ _|assumption|with_reducible refine Below.drew ?_|with_reducible refine below_drewN ?_|with_reducible refine Below.setCell ?_ (by first|(simp;done)|(simp;omega)) _|with_reducible refine Below.alloc ?_ (by first|exact Nat.le_refl _|(simp;done)|(simp;omega)) _)))⟩
theorem gone_at (h:z1r w b m l tk) (r:RefK):Calls Tryz.prog 109 #[.pointer (some ⟨b,0,none⟩),.agg #[.int .i64 r.1.1,.int .u32 r.1.2]] w fun e w'=>e=.returned (.int .i64 (goneL l r).1)/\z0q refV wV w' m (goneL l r).2/\Mod (·=m) w w':=by
 obtain⟨hA,hN⟩:=boxed h r
 obtain⟨c0,c1,cf,cl⟩:=lfacts hA.1
 have hL:∀ n,(Instr.lookup 184 (.map (some m)) (.agg #[.int .i64 r.1.1,.int .u32 r.1.2]) true).run Tryz.prog ((w.alloc (.cells #[.int .i64 r.1.1,.int .u32 r.1.2] 36)).drewN n)=.ok (.tuple #[.int .u64 ((lkp l r).getD w0).1,.bool (lkp l r).isSome]) ((w.alloc (.cells #[.int .i64 r.1.1,.int .u32 r.1.2] 36)).drewN n):=fun n=>lk_run (hA.2.same (by simp)) r
 have HT:=hid (there_yes b m tk _ hA.1)
 have HL:=hid h
 have hlt:=h.lt
 have hne:=h.ne
 clear h
 unfold goneL
 generalize hs:(lkp l r).isSome=s at hL
 generalize (lkp l r).getD w0=y at hL
 clear hs
 cases s
 ·simp only[Bool.false_eq_true,if_false]
  go_enter Tryz.func109,Tryz.ntmps109
  go_wp2_with (go_at_call 99;refine HT.out.mono ?_;rintro e w' ⟨rfl,rfl⟩)
  go_quiet (fail)
  go_wp2
  go_ret
  exact⟨rfl,HL.out.2.below (by (repeat (first|exact Below.refl _ _|assumption|with_reducible refine Below.drew ?_|with_reducible refine below_drewN ?_|with_reducible refine Below.setCell ?_ (by first|(simp;done)|(simp;omega)) _|with_reducible refine Below.alloc ?_ (by first|exact Nat.le_refl _|(simp;done)|(simp;omega)) _))) hlt.2,Mod.z0j (by (repeat (first|exact Below.refl _ _|assumption|with_reducible refine Below.drew ?_|with_reducible refine below_drewN ?_|with_reducible refine Below.setCell ?_ (by first|(simp;done)|(simp;omega)) _|with_reducible refine Below.alloc ?_ (by first|exact Nat.le_refl _|(simp;done)|(simp;omega)) _)))⟩
 ·simp only[if_true]
  go_enter Tryz.func109,Tryz.ntmps109
  go_wp2_with (go_at_call 99;refine HT.out.mono ?_;rintro e w' ⟨rfl,rfl⟩)
  go_quiet (fail)
  go_wp2
  have hB:Below w.heap.size w (((w.alloc (.cells #[.int .i64 r.1.1,.int .u32 r.1.2] 36)).drewN nq)):=by (repeat (first|exact Below.refl _ _|assumption|with_reducible refine Below.drew ?_|with_reducible refine below_drewN ?_|with_reducible refine Below.setCell ?_ (by first|(simp;done)|(simp;omega)) _|with_reducible refine Below.alloc ?_ (by first|exact Nat.le_refl _|(simp;done)|(simp;omega)) _))
  have hN2:(((w.alloc (.cells #[.int .i64 r.1.1,.int .u32 r.1.2] 36)).drewN nq)).heap[w.heap.size]?=some (.cells #[.int .i64 r.1.1,.int .u32 r.1.2] 36):=hN
  have HN:=hid hN2
  have HP:=hid (HL.out.keep hB)
  have HB:=hid hB
  have hz2:w.heap.size<(((w.alloc (.cells #[.int .i64 r.1.1,.int .u32 r.1.2] 36)).drewN nq)).heap.size:=lt_of_block HN.out
  clear hL hA hN hN2 c0 c1 cf cl hB HT
  generalize ((w.alloc (.cells #[.int .i64 r.1.1,.int .u32 r.1.2] 36)).drewN nq)=w2 at *
  refine z0f 7 (Turn 6 (fun w1=>Below w2.heap.size w2 w1) (fun w1=>z0q refV wV w1 m (delKV l r)/\Mod (·=m) w2 w1)) (by kernel_rfl) (by kernel_rfl) (by kernel_rfl) (Turn.start ⟨rfl,rfl,rfl,Nat.le_refl _,fun _ _=>rfl⟩) ?_
  dsimp only[List.take]
  iterate 6
   refine Seq.calm (a':=?_) (by decide) ?_ ?_ ?_
   rotate_left
   ·intro w1 hw1
    have hk:w1.heap[b]?=some (LBlk (some m) tk)/\w1.heap[w.heap.size]?=some (.cells #[.int .i64 r.1.1,.int .u32 r.1.2] 36):=by
     rcases hw1 with h|h
     ·exact⟨z0b HP.out.1 h HP.out.lt.1,z0b HN.out h hz2⟩
     ·exact⟨(h.2.block _ HP.out.lt.1 hne).trans HP.out.1,(h.2.block _ hz2 (by omega)).trans HN.out⟩
    have n0:=cell_of hk.2 0
    have n1:=cell_of hk.2 1
    obtain⟨c0,c1,cf,cl⟩:=lfacts hk.1
    clear hk hw1
    go_wp2_with (fail)
    refine⟨?_,id,id⟩
    exact rfl
   ·kernel_rfl
  refine Seq.turn (a':=?_) ?_ ?_ ?_
  rotate_left
  ·intro w1 hw1
   have hM1:=HP.out.2.below hw1 HP.out.lt.2
   have HB1:=hid hw1
   clear hw1
   refine wpList_delete_map rfl _ _ _ _ rfl refKey Tryz.underlying184 rfl r rfl hM1 ?_
   intro w3 hM3 hX3
   refine⟨?_,hM3,(Mod.z0j (S:=(·=m)) HB1.out).trans hX3 (fun _ _ h=>h)⟩
   exact rfl
  ·kernel_rfl
  iterate 0
   refine Seq.calm (a':=?_) (by decide) ?_ ?_ ?_
   rotate_left
   ·intro w1 hw1
    have hk:w1.heap[b]?=some (LBlk (some m) tk)/\w1.heap[w.heap.size]?=some (.cells #[.int .i64 r.1.1,.int .u32 r.1.2] 36):=by
     rcases hw1 with h|h
     ·exact⟨z0b HP.out.1 h HP.out.lt.1,z0b HN.out h hz2⟩
     ·exact⟨(h.2.block _ HP.out.lt.1 hne).trans HP.out.1,(h.2.block _ hz2 (by omega)).trans HN.out⟩
    have n0:=cell_of hk.2 0
    have n1:=cell_of hk.2 1
    obtain⟨c0,c1,cf,cl⟩:=lfacts hk.1
    clear hk hw1
    go_wp2_with (fail)
    refine⟨?_,id,id⟩
    exact rfl
   ·kernel_rfl
  refine SeqI.nil ?_
  intro D w1 hD hI
  replace hI:=hI.done (hD 6 (by omega))
  clear hD
  dsimp only[List.drop]
  go_wp2_with fail
  go_ret
  exact⟨rfl,hI.1,(Mod.z0j (S:=(·=m)) HB.out).trans hI.2 (fun _ _ h=>h)⟩
end
end Go.Proofs.YtgdmfledhhoedaaGreatDoor.K
namespace Go.Proofs.YtgdmfledhhoedaaGreatDoor.T
set_option maxRecDepth 8000
open Go.ChangeShapes Go.WideShapes Go.ChangeAt Go.RowKit Go.Burg
open Go.Burg.Lk
structure TreeAt (w:World) (t sb sg kb km:Nat) (l:List (Cel Nd)) (L:List (RefK × Wd)) (tk:Int):Prop where
 ht:w.heap[t]?=some (.cells #[.pointer (some ⟨sb,0,none⟩),.pointer (some ⟨kb,0,none⟩)] 98 (0,0))
 hs:SlabN 193 150 w sb sg l
 hk:K.z1r w kb km L tk
variable {a b:Nat}
theorem tmade_at {t:Nat} (w:World) (h:w.heap[t]?=some (.cells #[.pointer (some ⟨a,0,none⟩),.pointer (some ⟨b,0,none⟩)] 98 (0,0))):Calls Tryz.prog 56 #[.pointer (some ⟨t,0,none⟩)] w fun e w'=>e=.returned (.bool true)/\w=w':=by
 have c0:=cell_of h 0
 go_enter Tryz.func56,Tryz.ntmps56
 go_wp2
 go_ret
 exact⟨rfl,rfl⟩
variable {w:World}
theorem z0y {i:Nat} {v:Value} {cs cs':Array Value} {T:TypeId} {fz:Nat × Nat} (h:w.heap[b]?=some (.cells cs T fz)) (e:cs.setIfInBounds i v=cs') :
 (w.setCell ⟨b,i,none⟩ v).heap[b]?=some (.cells cs' T fz):=by rw[heap_set h,e]
theorem ne_of {o p:Obj} (ha:w.heap[a]?=some o) (hb:w.heap[b]?=some p) (h:o≠p):a≠b:=fun e=>by
 subst e
 rw[ha] at hb
 exact h (Option.some.inj hb)
section
variable {w w':World} {t sb sg kb km:Nat} {l:List (Cel Nd)} {L:List (RefK × Wd)} {tk:Int}
theorem TreeAt.keep (h:TreeAt w t sb sg kb km l L tk) (hb:Below w.heap.size w w'):TreeAt w' t sb sg kb km l L tk:=⟨z0b h.ht hb (lt_of_block h.ht),h.hs.keep hb,h.hk.keep hb⟩
theorem TreeAt.alloc (h:TreeAt w t sb sg kb km l L tk) (o:Obj):TreeAt (w.alloc o) t sb sg kb km l L tk:=⟨z0c h.ht,h.hs.alloc o,h.hk.alloc o⟩
theorem TreeAt.mod {S:Nat->Prop} (h:TreeAt w t sb sg kb km l L tk) (hM:Mod S w w') (h1:¬ S t) (h2:¬ S sb) (h3:¬ S sg) (h4:¬ S kb) (h5:¬ S km):TreeAt w' t sb sg kb km l L tk :=
 ⟨(hM.block t (lt_of_block h.ht) h1).trans h.ht,h.hs.mod hM h2 h3,h.hk.mod hM h4 h5⟩
theorem TreeAt.ne (h:TreeAt w t sb sg kb km l L tk):t≠sg/\t≠km/\sb≠km/\sb≠sg/\kb≠sg/\kb≠km/\sg≠km:=by
 obtain⟨cs,hg,_⟩:=h.hs.hc.hg
 obtain⟨es,c,hm,_⟩:=h.hk.2
 exact⟨ne_of h.ht hg (by simp),ne_of h.ht hm (by simp),ne_of h.hs.hb hm (by simp),ne_of h.hs.hb hg (by simp),ne_of h.hk.1 hg (by simp[K.LBlk]),ne_of h.hk.1 hm (by simp[K.LBlk]),ne_of hg hm (by simp)⟩
end
def TOwn (sg km:Nat) (i:Nat):Prop:=i=sg\/i=km
set_option maxHeartbeats 1000000 in
theorem rIndex_at {za:Option Addr} {zn zc:Nat} {L:List Kd} {j:Nat} {kk:Kd} (s g:Int) (w:World) (h:w.ownsRow 0 36 2 (.slice za zn zc) L.length (z2v L)) (hj:L[j]?=some kk) (hs:kk.s=s) (hg:kk.g=g) (hn:∀ i k,i<j->L[i]?=some k->¬ (k.s=s/\k.g=g)) (hl:L.length<=256) :
 Calls Tryz.prog 79 #[.slice za zn zc,.agg #[.int .i64 s,.int .u32 g]] w fun e w'=>e=.returned (.int .i64 j)/\Below w.heap.size w w':=by
 have hzn:=O.z1u h
 subst hzn
 have hjl:j<L.length:=(List.getElem?_eq_some_iff.1 hj).1
 obtain⟨gz,rfl,lz,cz⟩:=O.z0z h (by omega)
 have hN:=z0a w (.cells #[.int .i64 s,.int .u32 g] 36 (0,0))
 have hB:Below w.heap.size w (w.alloc (.cells #[.int .i64 s,.int .u32 g] 36 (0,0))):=(Below.refl _ _).alloc (Nat.le_refl _) _
 have HC:=hid (fun (w1:World) (hb:Below w.heap.size w w1) (i:Nat) (v:Value) (hv:(z2v L)[i]?=some v)=>(World.cell?_of_block (w:=w) (hb.block gz lz)).trans (cz i v hv))
 have HJ:=hid hj
 have HS:=hid hs
 have HG:=hid hg
 have HNO:=hid hn
 have HN:=hid hN
 have HB:=hid hB
 clear h cz hj hs hg hn hN hB
 go_enter Tryz.func79,Tryz.ntmps79
 go_wp2_with fail
 go_loopw [8] (fun iv wr=>∃ k:Nat,k<=j/\iv=.int .i64 k/\Below (w.alloc (.cells #[.int .i64 s,.int .u32 g] 36 (0,0))).heap.size (w.alloc (.cells #[.int .i64 s,.int .u32 g] 36 (0,0))) wr) (fun iv _=>L.length - (intOf iv).toNat)
 case atStart=>exact⟨0,Nat.zero_le _,rfl,Below.refl _ _⟩
 case round =>
  obtain⟨k,hk,rfl,hb⟩:=hrel
  have hkl:k<L.length:=by omega
  have hx:L[k]?=some L[k]:=List.getElem?_eq_getElem hkl
  generalize L[k]=x at hx
  have hbw:=HB.out.trans (hb.mono HB.out.size)
  obtain⟨z0,z1⟩:=kidsL_get hx
  have c0:=HC.out wr hbw _ _ z0
  have c1:=HC.out wr hbw _ _ z1
  have hn:=(hb.block _ (lt_of_block HN.out)).trans HN.out
  have n0:=cell_of hn 0
  have n1:=cell_of hn 1
  have HBR:=hid hb
  have HX:=hid hx
  have hd:decide (L.length<=k)=false:=by simp;exact hkl
  clear hb hbw z0 z1 hn hx
  by_cases he:x.s=s/\x.g=g
  ·have hkj:k=j:=by
    rcases Nat.lt_or_ge k j with h|h
    ·exact absurd he (HNO.out k x h HX.out)
    ·omega
   subst hkj
   obtain⟨rfl,rfl⟩:=he
   have e1:(x.s == x.s)=true:=by simp
   have e2:(x.g == x.g)=true:=by simp
   go_wp2_with fail
   go_quiet (fail)
   go_wp2_with fail
   go_ret
   exact⟨rfl,HB.out.trans ((below_drewN HBR.out).mono HB.out.size)⟩
  ·have hkj:k+1<=j:=by
    rcases Nat.lt_or_ge k j with h|h
    ·omega
    ·exfalso
     obtain rfl:k=j:=by omega
     have:=HX.out.symm.trans HJ.out
     cases this
     exact he ⟨HS.out,HG.out⟩
   rcases Decidable.em (s=x.s) with h1|h1
   ·have h2:¬ g=x.g:=fun e=>he ⟨h1.symm,e.symm⟩
    have e1:(s == x.s)=true:=by simp[h1]
    have e2:(g == x.g)=false:=beq_false_of_ne h2
    clear he h1 h2
    go_wp2_with fail
    go_quiet (fail)
    go_wp2_with fail
    go_roundw
    case rel=>exact⟨k+1,hkj,by go_num,below_drewN HBR.out⟩
    case measure=>simp[intOf];omega
   ·have e1:(s == x.s)=false:=beq_false_of_ne h1
    clear he h1
    go_wp2_with fail
    go_quiet (fail)
    go_wp2_with fail
    go_roundw
    case rel=>exact⟨k+1,hkj,by go_num,below_drewN HBR.out⟩
    case measure=>simp[intOf];omega
end Go.Proofs.YtgdmfledhhoedaaGreatDoor.T
namespace Go.Proofs.YtgdmfledhhoedaaGreatDoor.S
set_option maxRecDepth 8000
open Go.ChangeShapes Go.WideShapes Go.ChangeAt Go.RowKit Go.Burg
variable {c:Cel Nd} {l:List (Cel Nd)} {b g i:Nat}
theorem at_in (gen:Int) (w:World) (h:SlabN 193 150 w b g l) (hi:l[i]?=some c) (r:Bool) (hr:(c.is && decide (c.gen=gen))=r) :
 Calls Tryz.prog 95 #[.pointer (some ⟨b,0,none⟩),.agg #[.int .i64 i,.int .u32 gen]] w fun e w'=>e=.returned (.tuple #[.pointer (some ⟨g,i * 10,none⟩),.bool r])/\Below w.heap.size w w':=by
 have hil:i<l.length:=(List.getElem?_eq_some_iff.1 hi).1
 have hN:=z0a w (.cells #[.int .i64 i,.int .u32 gen] 36)
 have hA:=h.alloc (.cells #[.int .i64 i,.int .u32 gen] 36)
 have hp:=h.pos
 have ht:=h.top
 have hd1:decide (l.length<=i)=false:=by simp;exact hil
 have hd2:decide ((i:Int)<0)=false:=by simp
 have hd3:decide ((l.length:Int)<=(i:Int))=false:=by simp;omega
 obtain⟨is,x,gn⟩:=c
 obtain⟨s0,sf⟩:=hA.head
 have n0:=cell_of hN 0
 have n1:=cell_of hN 1
 obtain⟨⟨c0,c1,c2,c3,c4,c5,c6,c7,c8,c9⟩,cf,_,_⟩:=hA.hc.cell hi
 simp only at c0 c9
 clear c1 c2 c3 c4 c5 c6 c7 c8
 have HR:=hid hr
 have HB:Hid (Below w.heap.size w (w.alloc (.cells #[.int .i64 i,.int .u32 gen] 36))):=hid ((Below.refl _ _).alloc (Nat.le_refl _) _)
 generalize hW:w.alloc (.cells #[.int .i64 i,.int .u32 gen] 36)=W at *
 have HW:=hid hW
 have hne:w.heap.size≠b:=by have:=h.blt;omega
 clear hr hW
 go_enter Tryz.func95,Tryz.ntmps95
 go_wp2_with fail
 rw[HW.out]
 go_quiet (fail)
 go_wp2_with fail
 go_quiet (fail)
 go_wp2_with fail
 cases is
 all_goals
  go_quiet (fail)
  go_wp2
  go_ret2
  refine⟨?_,below_drewN (below_drewN (below_drewN HB.out))⟩
  have:=HR.out
  subst this
  simp
  try rfl
def Live (l:List (Cel Nd)) (slot gen:Int) (i:Nat) (c:Cel Nd):Prop:=slot=i/\l[i]?=some c/\c.is=true/\c.gen=gen
theorem at_live (slot gen:Int) (w:World) (h:SlabN 193 150 w b g l) (hL:Live l slot gen i c) :
 Calls Tryz.prog 95 #[.pointer (some ⟨b,0,none⟩),.agg #[.int .i64 slot,.int .u32 gen]] w fun e w'=>e=.returned (.tuple #[.pointer (some ⟨g,i * 10,none⟩),.bool true])/\Below w.heap.size w w':=by
 obtain⟨rfl,h2,h3,h4⟩:=hL
 exact at_in gen w h h2 true (by simp[h3,h4])
theorem free1_any (w:World) (h:CellsN 193 w g l) (hi:l[i]?=some c) :
 Calls Tryz.prog 123 #[.pointer (some ⟨g,i * 10,none⟩)] w fun e w'=>e=.returned (.tuple #[])/\CellsN 193 w' g (l.set i ⟨false,Nd.zero,c.gen⟩)/\Mod (·=g) w w':=by
 obtain⟨⟨c0,c1,c2,c3,c4,c5,c6,c7,c8,c9⟩,cf,g1,g2⟩:=h.cell hi
 have HP:=hid (h.put hi ⟨false,Nd.zero,c.gen⟩ ⟨g1,g2⟩)
 obtain⟨is,x,gen⟩:=c
 simp only at c0 c1 c2 c3 c4 c5 c6 c7 c8 c9 g1 g2
 go_enter Tryz.func123,Tryz.ntmps123
 go_wp2
 go_end0
 refine⟨rfl,HP.out,?_⟩
 exact Mod.setCell (S:=(·=g)) (p:=⟨g,i * 10+9,none⟩) (Mod.setCell (S:=(·=g)) (p:=⟨g,i * 10+8,none⟩) (Mod.setCell (S:=(·=g)) (p:=⟨g,i * 10+7,none⟩) (Mod.setCell (S:=(·=g)) (p:=⟨g,i * 10+6,none⟩) (Mod.setCell (S:=(·=g)) (p:=⟨g,i * 10+5,none⟩) (Mod.setCell (S:=(·=g)) (p:=⟨g,i * 10+4,none⟩) (Mod.setCell (S:=(·=g)) (p:=⟨g,i * 10+3,none⟩) (Mod.setCell (S:=(·=g)) (p:=⟨g,i * 10+2,none⟩) (Mod.setCell (S:=(·=g)) (p:=⟨g,i * 10+1,none⟩) (Mod.setCell (S:=(·=g)) (p:=⟨g,i * 10,none⟩) (Mod.refl _ _) (.inl rfl) _) (.inl rfl) _) (.inl rfl) _) (.inl rfl) _) (.inl rfl) _) (.inl rfl) _) (.inl rfl) _) (.inl rfl) _) (.inl rfl) _) (.inl rfl) _
theorem turn_free (slot gen:Int) (w:World) (h:SlabN 193 150 w b g l) (hL:Live l slot gen i c) :
 Calls Tryz.prog 96 #[.pointer (some ⟨b,0,none⟩),.agg #[.int .i64 slot,.int .u32 gen],.func (.func 123) #[] #[]] w fun e w'=>e=.returned (.int .i64 0)/\CellsN 193 w' g (l.set i ⟨false,Nd.zero,c.gen⟩)/\Mod (·=g) w w':=by
 have hN:=z0a w (.cells #[.int .i64 slot,.int .u32 gen] 36)
 have hA:=h.alloc (.cells #[.int .i64 slot,.int .u32 gen] 36)
 have hbl:=h.blt
 have hgl:=h.glt
 go_enter Tryz.func96,Tryz.ntmps96
 go_wp2_with fail
 refine (there_any _ hA).mono ?_
 rintro e w1 ⟨rfl,hw1⟩
 have hS:=hA.keep hw1
 have hN2:=z0b hN hw1 (by simp)
 have hl2:=lt_of_block hN2
 have HB:Hid (Below w.heap.size w w1):=hid (((Below.refl _ _).alloc (Nat.le_refl _) _).trans (hw1.mono (by simp)))
 have hsz:=HB.out.size
 clear hw1 hA hN
 rename World=>wa
 go_wp2_with fail
 have HD:=hid (fun (w1:World) (hw1:Below wa.heap.size wa w1)=>at_live slot gen w1 (hS.keep hw1) hL)
 refine z0g 10 (fun w1=>Below (wa).heap.size (wa) w1) (by kernel_rfl) (by kernel_rfl) (by kernel_rfl) ⟨rfl,rfl,rfl,Nat.le_refl _,fun _ _=>rfl⟩ ?_
 dsimp only[List.take]
 iterate 10
  refine Seq.cons (a':=?_) ?_ ?_ ?_
  rotate_left
  ·intro w1 hw1
   have hS:=hS.keep hw1
   obtain⟨s0,sf⟩:=hS.head
   have hn:=z0b hN2 hw1 hl2
   have n0:=cell_of hn 0
   have n1:=cell_of hn 1
   go_wp2_with (go_at_call 95;refine (HD.out _ hw1).mono ?_;rintro e w' ⟨rfl,hb⟩)
   refine⟨?_,by first|assumption|(simpa using z0d hw1 hb hw1.size)⟩
   exact rfl
  ·kernel_rfl
 refine SeqI.nil ?_
 intro _ w1 _ hw1
 dsimp only[List.drop]
 have hM1:Mod (·=g) w w1:=Mod.z0j (HB.out.trans (hw1.mono hsz))
 have hC1:=(hS.keep hw1).hc
 go_wp2_with fail
 refine (free1_any _ hC1 hL.2.1).mono ?_
 rintro e w2 ⟨rfl,hC2,hM2⟩
 go_wp2
 go_ret
 exact⟨rfl,hC2,hM1.trans hM2 (fun _ _ h=>h)⟩
theorem get_live (slot gen:Int) (w:World) (h:SlabN 193 150 w b g l) (hL:Live l slot gen i c) :
 Calls Tryz.prog 67 #[.pointer (some ⟨b,0,none⟩),.agg #[.int .i64 slot,.int .u32 gen]] w fun e w'=>e=.returned (.tuple #[c.x.V,.bool true])/\Below w.heap.size w w':=by
 have hN:=z0a w (.cells #[.int .i64 slot,.int .u32 gen] 36)
 have hN':=z0c (o':=(.cells #[.int .i64 0,.string ⟨#[]⟩,.string ⟨#[]⟩,.string ⟨#[]⟩,.slice none 0 0,.slice none 0 0,.bool false,.bool false] 104)) hN
 have hZ:=z0a (w.alloc (.cells #[.int .i64 slot,.int .u32 gen] 36)) (.cells #[.int .i64 0,.string ⟨#[]⟩,.string ⟨#[]⟩,.string ⟨#[]⟩,.slice none 0 0,.slice none 0 0,.bool false,.bool false] 104)
 have hs1:(w.alloc (.cells #[.int .i64 slot,.int .u32 gen] 36)).heap.size=w.heap.size+1:=by simp
 rw[hs1] at hZ
 have hA:=(h.alloc (.cells #[.int .i64 slot,.int .u32 gen] 36)).alloc (.cells #[.int .i64 0,.string ⟨#[]⟩,.string ⟨#[]⟩,.string ⟨#[]⟩,.slice none 0 0,.slice none 0 0,.bool false,.bool false] 104)
 have hbl:=h.blt
 have hgl:=h.glt
 clear hN hs1
 go_enter Tryz.func67,Tryz.ntmps67
 go_wp2_with fail
 refine (there_any _ hA).mono ?_
 rintro e w1 ⟨rfl,hw1⟩
 have hS:=hA.keep hw1
 have hN2:=z0b hN' hw1 (by simp;omega)
 have hZ2:=z0b hZ hw1 (by simp)
 have hl2:=lt_of_block hN2
 have hl3:=lt_of_block hZ2
 have HB:Hid (Below w.heap.size w w1):=hid ((((Below.refl _ _).alloc (Nat.le_refl _) _).alloc (by simp) _).trans (hw1.mono (by simp;omega)))
 have hsz:=HB.out.size
 clear hw1 hA hN' hZ
 rename World=>wa
 go_wp2_with fail
 have HD:=hid (fun (w1:World) (hw1:Below wa.heap.size wa w1)=>at_live slot gen w1 (hS.keep hw1) hL)
 refine z0g 10 (fun w1=>Below (wa).heap.size (wa) w1) (by kernel_rfl) (by kernel_rfl) (by kernel_rfl) ⟨rfl,rfl,rfl,Nat.le_refl _,fun _ _=>rfl⟩ ?_
 dsimp only[List.take]
 iterate 10
  refine Seq.cons (a':=?_) ?_ ?_ ?_
  rotate_left
  ·intro w1 hw1
   have hS:=hS.keep hw1
   obtain⟨s0,sf⟩:=hS.head
   have hn:=z0b hN2 hw1 hl2
   have n0:=cell_of hn 0
   have n1:=cell_of hn 1
   go_wp2_with (go_at_call 95;refine (HD.out _ hw1).mono ?_;rintro e w' ⟨rfl,hb⟩)
   refine⟨?_,by first|assumption|(simpa using z0d hw1 hb hw1.size)⟩
   exact rfl
  ·kernel_rfl
 refine SeqI.nil ?_
 intro _ w1 _ hw1
 dsimp only[List.drop]
 obtain⟨⟨c0,c1,c2,c3,c4,c5,c6,c7,c8,c9⟩,cf,_,_⟩:=(hS.keep hw1).hc.cell hL.2.1
 have hZ3:=z0b hZ2 hw1 hl3
 have z0:=cell_of hZ3 0
 have z1:=cell_of hZ3 1
 have z2:=cell_of hZ3 2
 have z3:=cell_of hZ3 3
 have z4:=cell_of hZ3 4
 have z5:=cell_of hZ3 5
 have z6:=cell_of hZ3 6
 have z7:=cell_of hZ3 7
 have zf:=z0e hZ3
 have HB3:=hid (HB.out.trans (hw1.mono hsz))
 clear c0 c9 hZ3 hN2 hZ2 HB
 obtain⟨is,⟨kn,cd,vl,pt,⟨ya,yn,yc⟩,⟨za,zn,zc⟩,pl,di⟩,gn⟩:=c
 simp only at c1 c2 c3 c4 c5 c6 c7 c8
 go_wp2
 refine bodyPost_ret (v:=.tuple #[.agg #[_,_,_,_,_,_,_,_],_]) (by simp[results,Tryz.results67,go_sem,z0,z1,z2,z3,z4,z5,z6,z7]) rfl ⟨rfl,?_⟩
 repeat refine Below.setCell ?_ (Nat.le_succ _) _
 exact HB3.out
theorem free_live (slot gen:Int) (w:World) (h:SlabN 193 150 w b g l) (hL:Live l slot gen i c) :
 Calls Tryz.prog 108 #[.pointer (some ⟨b,0,none⟩),.agg #[.int .i64 slot,.int .u32 gen]] w fun e w'=>e=.returned (.int .i64 0)/\SlabN 193 150 w' b g (l.set i ⟨false,Nd.zero,c.gen⟩)/\Mod (·=g) w w':=by
 have hA:=h.alloc (.cells #[.int .i64 slot,.int .u32 gen] 36)
 have hbl:=h.blt
 have hgl:=h.glt
 have n0:=cell_of (z0a w (.cells #[.int .i64 slot,.int .u32 gen] 36)) 0
 have n1:=cell_of (z0a w (.cells #[.int .i64 slot,.int .u32 gen] 36)) 1
 go_enter Tryz.func108,Tryz.ntmps108
 go_wp2_with fail
 refine (turn_free slot gen _ hA hL).mono ?_
 rintro e w1 ⟨rfl,hC,hM⟩
 go_wp2
 go_ret
 have hM1:=((Mod.refl (·=g) w).alloc (.cells #[.int .i64 slot,.int .u32 gen] 36)).trans hM (fun _ _ h=>h)
 exact⟨rfl,h.turn hC (by simp) hM1,hM1⟩
end Go.Proofs.YtgdmfledhhoedaaGreatDoor.S
