/- Part 2 of 27. -/
import Derived.Test.YtgdmfledhhoedaaGreatDoorD01
import Derived.RangeFuncNested
import Derived.OrdersIn
import Derived.TacticsIn
import Derived.KernelRfl
import Derived.WalkKit
import Derived.ProofKit
import Derived.OpenShut
import Derived.BigQuiet
import Derived.Test.YtgdmfledhhoedaaGreatDoorRows
import Derived.Deep.QuietTactic
import Derived.IntWalk
import Derived.Laws.CopyRow
import Derived.OwnWalk
import Derived.Laws.Tables
namespace Go.Burg
open Go
structure FOk (F:Fence) (P:Program):Prop where
 fn:∀ f,F.fn f
 dep:F.depth=none
 calls:∀ (n:Nat) (f:FuncId) (args:Array Value) (w:World) (R:Ending->World->Prop),Calls P f args w R->CallsIn F n P f args w R
 rows:∀ (n:Nat) (row:String) (args:Array Value) (w:World) (R:Value->World->Prop),Rows P row args w R->RowsIn F n P row args w R
theorem fok_wide (P:Program):FOk Fence.wide P:=⟨fun _=>trivial,rfl,fun _ _ _ _ _ h=>callsIn_wide.2 h,fun _ _ _ _ _ h=>fun c cs _=>by
 obtain⟨v,w',r,s⟩:=h c cs
 exact⟨v,w',r,stepsIn_wide.2 s⟩⟩
theorem fok_round (P:Program) (L:Nat):FOk (Fence.wide.inRound L) P:=⟨fun _=>trivial,rfl,fun _ _ _ _ _ h=>CallsIn.inRound L (callsIn_wide.2 h),fun _ _ _ _ _ h=>fun c cs _=>by
 obtain⟨v,w',r,s⟩:=h c cs
 exact⟨v,w',r,stepsIn_wide.2 s⟩⟩
def noDefer (l:List Oper):Bool:=l.all fun o=>match o.op with | .defer _=>false|_=>true
variable {i id n:Nat} {a b w w0:World}
section
variable {P:Program} {l:List Oper} {Q:Exit->Act->World->Prop} {a0:Act}
theorem Does.uponIn {F:Fence} {n:Nat} {o:Oper} {a:Act} {w:World} {G:Value->World->Prop} {K:Act->World->Prop} {Q:Exit->Act->World->Prop} (HF:FOk F P) (hd:∀ c,o.op≠.defer c)
 (h:Does P o a.eval w G) (hk:∀ v w',G v w'->K (a.put o.dst v) w'):o.wpIn F n P a w K Q:=by
 refine⟨fun f _=>HF.fn f,?_⟩
 unfold Does at h
 rw[Oper.semAt_eq _ _ _ hd]
 generalize (execOp a.eval o).run P w=r at *
 cases r with
 | ok x w' =>
  cases x<;>simp only[Oper.uponIn] at h ⊢<;>first|exact hk _ _ h|skip
  case enter f args =>
   refine⟨fun e=>(by rw[HF.dep] at e;cases e),(HF.calls _ _ _ _ _ h).mono fun e w'' he=>?_⟩
   obtain⟨v,rfl,hv⟩:=he
   exact hk _ _ hv
  case row row args=>exact⟨fun e=>(by rw[HF.dep] at e;cases e),RowsIn.mono (HF.rows _ _ _ _ _ h) fun v w'' hv=>hk _ _ hv⟩
  all_goals exact h.elim
 | halt x w'=>exact h.elim
theorem rgn_joint {F:Fence} (HF:FOk F P) (hnd:noDefer l=true) (m:Nat) (hm:P.follows .mixedOrders=true) (hg:good m l=true)
 (J:(Nat->Bool)->(Nat->Value)->World->Prop) (h0:J (fun _=>false) (fun _=>undef) w0.drew)
 (hs:∀ i o,i<m->l[i]?=some o->∀ (D:Nat->Bool) (xs:Nat->Value) (w:World),D i=false->(∀ j∈waits o,D j=true)->J D xs w ->
  DoesG P l.toArray o (fill a0 (dsts 0 (l.take m)) xs) w fun v w'=>J (fun j=>D j || j == i) (fun j=>if j=i then v else xs j) w')
 (hend:∀ (D:Nat->Bool) (xs:Nat->Value) (w:World),(∀ j,j<m->D j=true)->J D xs w->wpListIn F n P l.toArray Q (l.drop m) (fill a0 (dsts 0 (l.take m)) xs) w) :
 (Code.region id l.toArray true).wpIn F n P Q a0 w0:=by
 refine wpIn_region_any hm ?_
 have hndo:∀ (i:Nat) (o:Oper),l[i]?=some o->∀ c,o.op≠.defer c:=fun i o ho c hc=>by
  have:=List.all_eq_true.1 hnd o (List.mem_of_getElem? ho)
  rw[hc] at this
  cases this
 have:=joint_gen (WL:=wpListIn F n P l.toArray Q) (WA:=wpAnyIn F n P .any l.toArray Q) m hg (fun _ _ _ h1 h2=>⟨h1,h2⟩) (fun fuel listed a w h1 h2=>⟨fun e=>absurd e h1,fun i hi=>by
  obtain⟨o,ho,h⟩:=h2 i hi
  unfold wpOpIn
  simp only[show l.toArray[i]?=some o by simpa using ho]
  rcases h with ⟨r,h,k⟩|⟨G,h,k⟩
  ·unfold wpListIn at h
   split
   ·rename_i hw
    rw[if_pos hw] at h
    exact Oper.wpIn_mono k h
   ·rename_i hw
    rw[if_neg hw] at h
    exact⟨h.1,k _ _ h.2⟩
  ·unfold DoesG at h
   split
   ·rename_i hw
    rw[if_pos hw] at h
    exact Does.uponIn HF (hndo i o ho) h k
   ·rename_i hw
    rw[if_neg hw] at h
    exact⟨fun f _=>HF.fn f,k _ _ h⟩⟩) J h0 hs hend
 simpa using this
theorem rgn_inv {F:Fence} (HF:FOk F P) (hnd:noDefer l=true) (m:Nat) (hm:P.follows .mixedOrders=true) (hg:good m l=true)
 (V:Nat->Value->World->Prop) (I:(Nat->Bool)->World->Prop) (h0:I (fun _=>false) w0.drew)
 (hs:∀ i o,i<m->l[i]?=some o->∀ (D:Nat->Bool) (xs:Nat->Value) (w:World),D i=false->(∀ j∈waits o,D j=true)->(∀ j,D j=true->V j (xs j) w)->I D w ->
  DoesG P l.toArray o (fill a0 (dsts 0 (l.take m)) xs) w fun v w'=>V i v w'/\(∀ j,D j=true->V j (xs j) w')/\I (fun j=>D j || j == i) w')
 (hend:∀ (D:Nat->Bool) (xs:Nat->Value) (w:World),(∀ j,j<m->D j=true)->(∀ j,j<m->V j (xs j) w)->I D w->wpListIn F n P l.toArray Q (l.drop m) (fill a0 (dsts 0 (l.take m)) xs) w) :
 (Code.region id l.toArray true).wpIn F n P Q a0 w0:=by
 refine rgn_joint HF hnd m hm hg (fun D xs w=>(∀ j,D j=true->V j (xs j) w)/\I D w) ⟨fun j h=>(by cases h),h0⟩ ?_ ?_
 ·rintro i o him ho D xs w hD hw ⟨hV,hI⟩
  refine (hs i o him ho D xs w hD hw hV hI).mono fun v w' ⟨h1,h2,h3⟩=>⟨fun j hj=>?_,h3⟩
  by_cases e:j=i
  ·subst e;simp only[if_pos];exact h1
  ·simp only[if_neg e];exact h2 j (by simpa[e] using hj)
 ·exact fun D xs w hD h=>hend D xs w hD (fun j hj=>h.1 j (hD j hj)) h.2
theorem rgn_seqI {F:Fence} (HF:FOk F P) (hnd:noDefer l=true) (m:Nat) (I:(Nat->Bool)->World->Prop) (hm:P.follows .mixedOrders=true) (hg:good m l=true)
 (hlt:(dsts 0 (l.take m)).all (fun p=>decide (p.2<a0.tmps.size))=true) (h0:I (fun _=>false) w0.drew)
 (hs:SeqI P l.toArray I 0 (l.take m) a0 (fun A=>∀ D w,(∀ j,j<m->D j=true)->I D w->wpListIn F n P l.toArray Q (l.drop m) A w)):(Code.region id l.toArray true).wpIn F n P Q a0 w0 :=
 seqI_gen m I hg hlt hs (fun V h1 h2=>rgn_inv HF hnd m hm hg V I h0 h1 h2)
theorem rgn_seq {F:Fence} (HF:FOk F P) (hnd:noDefer l=true) (m:Nat) (R:World->Prop) (hm:P.follows .mixedOrders=true) (hg:good m l=true)
 (hlt:(dsts 0 (l.take m)).all (fun p=>decide (p.2<a0.tmps.size))=true) (h0:R w0.drew)
 (hs:SeqI P l.toArray (fun _=>R) 0 (l.take m) a0 (fun A=>∀ (D:Nat->Bool) w,(∀ j,j<m->D j=true)->R w->wpListIn F n P l.toArray Q (l.drop m) A w)):(Code.region id l.toArray true).wpIn F n P Q a0 w0 :=
 rgn_seqI HF hnd m (fun _=>R) hm hg hlt h0 hs
end
def z1s:Act->List Oper->List Value->Act
 | a,o :: l,v :: vs=>z1s (a.put o.dst v) l vs
 | a,_,_=>a
def upd1 (xs:Nat->Value) (i:Nat) (u:Value):Nat->Value:=fun j=>if j=i then u else xs j
def valAt (vs:List Value) (j:Nat):Value:=vs[j]?.getD undef
theorem fillL_fill:∀ (l:List Oper) (vs:List Value) (k:Nat) (a:Act) (f:Nat->Value),vs.length=l.length->(∀ i,i<l.length->f (k+i)=valAt vs i)->z1s a l vs=fill a (dsts k l) f
 | [],vs,_,_,_,h,_=>by cases vs<;>first|rfl|cases h
 | o :: l,[],_,_,_,h,_=>by cases h
 | o :: l,v :: vs,k,a,f,h,hf=>by
  have ih:=fillL_fill l vs (k+1) (a.put o.dst v) f (by simpa using h) (fun i hi=>by
   have:=hf (i+1) (by simpa using hi)
   rw[show k+1+i=k+(i+1) by omega,this]
   rfl)
  simp only[z1s]
  rw[ih]
  have h0:f k=v:=hf 0 (by simp)
  cases hd:o.dst with
  | none=>simp only[dsts,hd,Act.put]
  | some d=>simp only[dsts,hd,fill,h0]
def maskL (l:List Oper) (i:Nat):Nat->List Value->List Value
 | _,[]=>[]
 | k,v :: vs=>(if behind l k i || k == i then undef else v) :: maskL l i (k+1) vs
theorem maskL_get {l:List Oper} {i:Nat}:∀ (vs:List Value) (k j:Nat),(behind l (k+j) i || k+j == i)=false->valAt (maskL l i k vs) j=valAt vs j
 | [],_,_,_=>rfl
 | v :: vs,k,0,h=>by
  rw[Nat.add_zero] at h
  simp only[maskL,h]
  rfl
 | v :: vs,k,j+1,h=>by
  have:=maskL_get (l:=l) (i:=i) vs (k+1) j (by rwa [show k+1+j=k+(j+1) by omega])
  exact this
def AllE (F:Nat->Prop):List Nat->Prop
 | []=>True
 | e :: r=>F e/\AllE F r
theorem AllE.get {F:Nat->Prop}:∀ {E:List Nat} {e:Nat},AllE F E->E.contains e=true->F e
 | [],_,_,h=>by cases h
 | x :: r,e,⟨h1,h2⟩,h=>by
  rw[List.contains_cons] at h
  rcases Bool.or_eq_true_iff.1 h with h|h
  ·have:e=x:=by simpa using h
   subst this;exact h1
  ·exact h2.get h
section
variable {P:Program} {l:List Oper} {Q:Exit->Act->World->Prop} {a0:Act}
def OpT (P:Program) (ops:Array Oper) (E:List Nat) (tab:(Nat->Value)->List Value) (R:(Nat->Bool)->(Nat->Value)->World->Prop) (F:(Nat->Value)->Act) (i:Nat) (o:Oper):Prop :=
 (E.contains i=false/\∀ D xs w,D i=false->(∀ j∈waits o,D j=true)->R D xs w->wpList P ops (z2m fun a1 w'=>a1=(F xs).put o.dst (valAt (tab xs) i)/\∀ u,(o.dst.isSome=true->u=valAt (tab xs) i)->R (fun j=>D j || j == i) (upd1 xs i u) w') [o] (F xs) w) \/
 (E.contains i=true/\∀ D xs w,D i=false->(∀ j∈waits o,D j=true)->R D xs w->wpList P ops (z2m fun a1 w'=>∃ v,a1=(F xs).put o.dst v/\∀ u,(o.dst.isSome=true->u=v)->R (fun j=>D j || j == i) (upd1 xs i u) w') [o] (F xs) w)
theorem tab_gen {Goal:Prop} {Tail:Act->World->Prop} (m:Nat) (E:List Nat) (tab:(Nat->Value)->List Value) (R:(Nat->Bool)->(Nat->Value)->World->Prop)
 (h0:R (fun _=>false) (fun _=>undef) w0.drew) (hT:∀ xs ys,(∀ e∈E,xs e=ys e)->tab xs=tab ys)
 (hs:z1c (OpT P l.toArray E tab R (fun xs=>z1s a0 (l.take m) (tab xs))) 0 (l.take m))
 (hend:∀ (D:Nat->Bool) (xs:Nat->Value) (w:World),(∀ j,j<m->D j=true)->R D xs w->Tail (z1s a0 (l.take m) (tab xs)) w)
 (hE:AllE (fun e=>(∀ xs,valAt (tab xs) e=xs e)/\∀ xs u,maskL l e 0 (tab (upd1 xs e u))=maskL l e 0 (tab xs)) E) (hlen:∀ xs,(tab xs).length=m) (hg:good m l=true)
 (hlt:(dsts 0 (l.take m)).all (fun p=>decide (p.2<a0.tmps.size))=true)
 (hj:∀ J:(Nat->Bool)->(Nat->Value)->World->Prop,J (fun _=>false) (fun _=>undef) w0.drew ->
  (∀ i o,i<m->l[i]?=some o->∀ (D:Nat->Bool) (xs:Nat->Value) (w:World),D i=false->(∀ j∈waits o,D j=true)->J D xs w->DoesG P l.toArray o (fill a0 (dsts 0 (l.take m)) xs) w fun v w'=>J (fun j=>D j || j == i) (fun j=>if j=i then v else xs j) w') ->
  (∀ (D:Nat->Bool) (xs:Nat->Value) (w:World),(∀ j,j<m->D j=true)->J D xs w->Tail (fill a0 (dsts 0 (l.take m)) xs) w)->Goal):Goal:=by
 have hg':=hg
 simp only[good,Bool.and_eq_true,decide_eq_true_eq,List.all_eq_true,List.mem_range] at hg'
 obtain⟨⟨⟨_,hg2⟩,hml⟩,hg4⟩:=hg'
 have htl:(l.take m).length=m:=by simp;omega
 have htk:∀ i,i<m->(l.take m)[i]?=l[i]?:=fun i hi=>by simp[hi]
 have hfl:∀ xs,z1s a0 (l.take m) (tab xs)=fill a0 (dsts 0 (l.take m)) (valAt (tab xs)):=fun xs=>fillL_fill _ _ _ _ _ (by rw[hlen,htl]) (fun i _=>by rw[Nat.zero_add])
 have hdst:∀ p∈dsts 0 (l.take m),p.1<m/\((l[p.1]?).bind (·.dst))=some p.2:=fun p hp=>by
  obtain⟨i',o',hi',hj',hd'⟩:=(z2o (l.take m) 0 p.1 p.2).1 hp
  have h1:=(List.getElem?_eq_some_iff.1 hi').1
  rw[htl] at h1
  have h2:p.1=i':=by omega
  rw[htk i' h1] at hi'
  exact⟨by omega,by rw[h2,hi'];exact hd'⟩
 refine hj (fun D xs w=>Closed l D/\(∀ j,j<m->E.contains j=false->D j=true->∀ d,(l[j]?).bind (·.dst)=some d->xs j=valAt (tab xs) j)/\R D xs w) ⟨Closed.start l,fun _ _ _ h=>(by cases h),h0⟩ ?_ ?_
 ·rintro i o him ho D xs w hD hw ⟨hcl,hv,hR⟩
  have ho':(l.take m)[i]?=some o:=by rw[htk i him];exact ho
  have hok:looksOk l.toArray (dsts 0 (l.take m)) i o=true:=by simpa using goodOps_spec (l.take m) 0 hg2 i o ho'
  have hwi:∀ j∈waits o,j<i:=fun j hj=>by
   have h1:=(hg4 i (by omega)).1
   rw[ho] at h1
   simpa using h1 j (by simpa using hj)
  have hx:fill a0 (dsts 0 (l.take m)) xs=fill a0 (dsts 0 (l.take m)) (fun j=>if ((l[j]?).bind (·.dst)).isSome then xs j else valAt (tab xs) j):=fill_congr _ _ fun p hp=>by
   rw[(hdst p hp).2];rfl
  rw[hx]
  refine DoesG_congr hok (xs:=valAt (tab xs)) (fun j hj=>?_) ?_
  ·cases hd:(l[j]?).bind (·.dst) with
   | none=>rfl
   | some d =>
    simp only[Option.isSome_some,if_pos]
    cases he:E.contains j with
    | false=>exact (hv j (by have:=hwi j hj;omega) he (hw j hj) d hd).symm
    | true=>exact (hE.get he).1 xs
  ·rw[<- hfl]
   have hh:=AllOpsI_spec (l.take m) 0 hs i o ho'
   rw[Nat.zero_add] at hh
   have hdef:∀ (b:Act) (d:Option Tmp) (v:Value),(b.put d v).defers=b.defers:=fun b d v=>by cases d<;>rfl
   have hinj:∀ (v v':Value),(z1s a0 (l.take m) (tab xs)).put o.dst v=(z1s a0 (l.take m) (tab xs)).put o.dst v'->o.dst.isSome=true->v'=v:=fun v v' e hds=>by
    obtain⟨d,hdd⟩:=Option.isSome_iff_exists.1 hds
    rw[hdd] at e
    have hmem:(i,d)∈dsts 0 (l.take m):=(z2o (l.take m) 0 i d).2 ⟨i,o,ho',by omega,hdd⟩
    have hl:=List.all_eq_true.1 hlt (i,d) hmem
    exact (put_inj (by rw[hfl,fill_size];simpa using hl) e).symm
   have hold:∀ v j,j≠i->E.contains j=false->j<m->D j=true->∀ d,(l[j]?).bind (·.dst)=some d->tab (upd1 xs i v)=tab xs\/E.contains i=true->(if j=i then v else xs j)=valAt (tab (upd1 xs i v)) j:=fun v j hji he hjm hDj d hd ht=>by
    rw[if_neg hji,hv j hjm he hDj d hd]
    rcases ht with ht|ht
    ·rw[ht]
    ·have hb:(behind l (0+j) i || 0+j == i)=false:=by
      rw[Nat.zero_add]
      have h1:(j == i)=false:=beq_false_of_ne hji
      rw[h1,Bool.or_false]
      cases hbb:behind l j i with
      | false=>rfl
      | true =>
       have:=hcl.ahead hbb hD
       rw[hDj] at this
       cases this
     have h2:=(hE.get ht).2 xs v
     rw[<- maskL_get (tab xs) 0 j hb,<- h2,maskL_get _ 0 j hb]
   rcases hh with ⟨hc,hh⟩|⟨hc,hh⟩
   ·refine z3b (z0u _ _ ?_ (hh D xs w hD hw hR))
    rintro a1 w' ⟨rfl,hg⟩
    refine⟨hdef _ _ _,fun v he=>?_⟩
    have hv':=hinj _ _ he
    have ht:tab (upd1 xs i v)=tab xs:=hT _ _ fun e hmem=>by
     have hne:e≠i:=fun h=>by
      subst h
      have:=List.elem_eq_true_of_mem hmem
      rw[show E.elem e=E.contains e from rfl,hc] at this
      cases this
     unfold upd1
     rw[if_neg hne]
    refine⟨hcl.more ho hw,fun j hjm he hj d hd=>?_,hg v hv'⟩
    by_cases hji:j=i
    ·subst hji
     rw[ho] at hd
     have hd2:o.dst=some d:=hd
     show (if j=j then v else xs j)=valAt (tab (upd1 xs j v)) j
     rw[if_pos rfl,ht,hv' (by rw[hd2];rfl)]
    ·exact hold v j hji he hjm (by simpa[hji] using hj) d hd (.inl ht)
   ·refine z3b (z0u _ _ ?_ (hh D xs w hD hw hR))
    rintro a1 w' ⟨v0,rfl,hg⟩
    refine⟨hdef _ _ _,fun v he=>?_⟩
    refine⟨hcl.more ho hw,fun j hjm he hj d hd=>?_,hg v (hinj _ _ he)⟩
    have hji:j≠i:=fun h=>by subst h;rw[hc] at he;cases he
    exact hold v j hji he hjm (by simpa[hji] using hj) d hd (.inr hc)
 ·rintro D xs w hD ⟨_,hv,hR⟩
  have:=hend D xs w hD hR
  rw[hfl] at this
  rw[fill_congr (xs':=valAt (tab xs))]
  ·exact this
  ·intro p hp
   cases he:E.contains p.1 with
   | false=>exact hv p.1 (hdst p hp).1 he (hD _ (hdst p hp).1) p.2 (hdst p hp).2
   | true=>exact ((hE.get he).1 xs).symm
theorem z0r (m:Nat) (E:List Nat) (tab:(Nat->Value)->List Value) (R:(Nat->Bool)->(Nat->Value)->World->Prop)
 (h0:R (fun _=>false) (fun _=>undef) w0.drew) (hT:∀ xs ys,(∀ e∈E,xs e=ys e)->tab xs=tab ys)
 (hs:z1c (OpT P l.toArray E tab R (fun xs=>z1s a0 (l.take m) (tab xs))) 0 (l.take m))
 (hend:∀ (D:Nat->Bool) (xs:Nat->Value) (w:World),(∀ j,j<m->D j=true)->R D xs w->wpList P l.toArray Q (l.drop m) (z1s a0 (l.take m) (tab xs)) w)
 (hE:AllE (fun e=>(∀ xs,valAt (tab xs) e=xs e)/\∀ xs u,maskL l e 0 (tab (upd1 xs e u))=maskL l e 0 (tab xs)) E:=by repeat (first|exact trivial|refine⟨⟨fun _=>by kernel_rfl,fun _ _=>by kernel_rfl⟩,?_⟩))
 (hlen:∀ xs,(tab xs).length=m:=by intro _;kernel_rfl) (hm:P.follows .mixedOrders=true:=by kernel_rfl) (hg:good m l=true:=by kernel_rfl)
 (hlt:(dsts 0 (l.take m)).all (fun p=>decide (p.2<a0.tmps.size))=true:=by kernel_rfl):(Code.region id l.toArray true).wp P Q a0 w0 :=
 tab_gen m E tab R h0 hT hs hend hE hlen hg hlt (fun J j0 js je=>wp_region_joint m hm hg J j0 js je)
theorem rgn_tab {F:Fence} (HF:FOk F P) (m:Nat) (E:List Nat) (tab:(Nat->Value)->List Value) (R:(Nat->Bool)->(Nat->Value)->World->Prop)
 (h0:R (fun _=>false) (fun _=>undef) w0.drew) (hT:∀ xs ys,(∀ e∈E,xs e=ys e)->tab xs=tab ys)
 (hs:z1c (OpT P l.toArray E tab R (fun xs=>z1s a0 (l.take m) (tab xs))) 0 (l.take m))
 (hend:∀ (D:Nat->Bool) (xs:Nat->Value) (w:World),(∀ j,j<m->D j=true)->R D xs w->wpListIn F n P l.toArray Q (l.drop m) (z1s a0 (l.take m) (tab xs)) w)
 (hE:AllE (fun e=>(∀ xs,valAt (tab xs) e=xs e)/\∀ xs u,maskL l e 0 (tab (upd1 xs e u))=maskL l e 0 (tab xs)) E:=by repeat (first|exact trivial|refine⟨⟨fun _=>by kernel_rfl,fun _ _=>by kernel_rfl⟩,?_⟩))
 (hlen:∀ xs,(tab xs).length=m:=by intro _;kernel_rfl) (hm:P.follows .mixedOrders=true:=by kernel_rfl) (hg:good m l=true:=by kernel_rfl)
 (hlt:(dsts 0 (l.take m)).all (fun p=>decide (p.2<a0.tmps.size))=true:=by kernel_rfl)
 (hnd:noDefer l=true:=by kernel_rfl):(Code.region id l.toArray true).wpIn F n P Q a0 w0 :=
 tab_gen m E tab R h0 hT hs hend hE hlen hg hlt (fun J j0 js je=>rgn_joint HF hnd m hm hg J j0 js je)
end
open Go.RowKit
structure Mod (S:Nat->Prop) (w w':World):Prop where
 os:w'.os=w.os
 tape:w'.tape=w.tape
 output:w'.output=w.output
 size:w.heap.size<=w'.heap.size
 block:∀ k,k<w.heap.size->¬ S k->w'.heap[k]?=w.heap[k]?
theorem Mod.refl (S:Nat->Prop) (w:World):Mod S w w:=⟨rfl,rfl,rfl,Nat.le_refl _,fun _ _ _=>rfl⟩
theorem Mod.trans {S S':Nat->Prop} {a b c:World} (h:Mod S a b) (k:Mod S' b c) (hs:∀ i,i<a.heap.size->S' i->S i):Mod S a c :=
 ⟨k.os.trans h.os,k.tape.trans h.tape,k.output.trans h.output,Nat.le_trans h.size k.size,fun i hi hn =>
  (k.block i (Nat.lt_of_lt_of_le hi h.size) (fun hx=>hn (hs i hi hx))).trans (h.block i hi hn)⟩
variable {S:Nat->Prop}
theorem Mod.mono {S':Nat->Prop} (h:Mod S a b) (hs:∀ i,i<a.heap.size->S i->S' i):Mod S' a b :=
 ⟨h.os,h.tape,h.output,h.size,fun i hi hn=>h.block i hi (fun hx=>hn (hs i hi hx))⟩
theorem Mod.z0j (h:Below a.heap.size a b):Mod S a b:=⟨h.os,h.tape,h.output,h.size,fun i hi _=>h.block i hi⟩
theorem Mod.below (h:Mod S a b) {B:Nat} (hB:B<=a.heap.size) (hs:∀ i,i<B->¬ S i):Below B a b :=
 ⟨h.os,h.tape,h.output,h.size,fun i hi=>h.block i (by omega) (hs i hi)⟩
theorem Mod.alloc {S:Nat->Prop} {a w:World} (h:Mod S a w) (o:Obj):Mod S a (w.alloc o) :=
 ⟨h.os,h.tape,h.output,Nat.le_trans h.size (by simp),fun i hi hn=>by rw[Below.heap_alloc _ _ _ (by have:=h.size;omega)];exact h.block i hi hn⟩
theorem Mod.drew {S:Nat->Prop} {a w:World} (h:Mod S a w):Mod S a w.drew:=⟨h.os,h.tape,h.output,h.size,h.block⟩
theorem Mod.setCell {S:Nat->Prop} {a w:World} (h:Mod S a w) {p:Addr} (hp:S p.block\/a.heap.size<=p.block) (u:Value):Mod S a (w.setCell p u) :=
 ⟨h.os,h.tape,h.output,by simpa[World.setCell] using h.size,fun i hi hn=>by
  rw[Below.heap_setCell _ _ _ _ (fun e=>by subst e;rcases hp with hp|hp;exact hn hp;omega)];exact h.block i hi hn⟩
theorem hid {p:Prop} (h:p):Hid p:=h
theorem z0d {B:Nat} {c:World} (h:Below B a b) (k:Below b.heap.size b c) (hB:B<=b.heap.size):Below B a c:=h.trans (k.mono hB)
variable {cs:Array Value} {T:TypeId}
theorem cell_of {b:Nat} {fz:Nat × Nat} (h:w.heap[b]?=some (.cells cs T fz)) (i:Nat):w.cell? ⟨b,i,none⟩=cs[i]?:=by
 simp[World.cell?,h]
theorem z0e {b:Nat} (h:w.heap[b]?=some (.cells cs T (0,0))) (i:Nat):w.frozen? ⟨b,i,none⟩=false:=by
 simp[World.frozen?,h]
theorem lt_of_block {b:Nat} {o:Obj} (h:w.heap[b]?=some o):b<w.heap.size:=(Array.getElem?_eq_some_iff.1 h).1
variable {v:Value}
theorem heap_set {b:Nat} {fz:Nat × Nat} (h:w.heap[b]?=some (.cells cs T fz)) :
 (w.setCell ⟨b,i,none⟩ v).heap[b]?=some (.cells (cs.setIfInBounds i v) T fz):=by
 simp[World.setCell,Array.getElem?_modify,h]
theorem z0a (w:World) (o:Obj):(w.alloc o).heap[w.heap.size]?=some o:=by
 show (w.heap.push o)[w.heap.size]?=_
 simp
structure Kd where
 b:Int
 s:Int
 g:Int
def Rise (L:List Kd):Prop:=L.Pairwise fun k l=>k.b<l.b
def ltK (y:Int) (k:Kd):Bool:=decide (k.b<y)
def idx (L:List Kd) (y:Int):Nat:=(L.takeWhile (ltK y)).length
def z0p (L:List Kd) (y:Int):Option Kd:=L.find? fun k=>decide (k.b=y)
def insK (L:List Kd) (k:Kd):List Kd:=L.takeWhile (ltK k.b)++k :: L.dropWhile (ltK k.b)
def delK (L:List Kd) (y:Int):List Kd:=L.filter fun k=>decide (k.b≠y)
def z1t (L:List Kd) (y s g:Int):List Kd:=L.map fun k=>if k.b=y then ⟨y,s,g⟩ else k
theorem idx_spec (L:List Kd) (y:Int):idx L y<=L.length/\(∀ j k,j<idx L y->L[j]?=some k->k.b<y)/\(∀ k,L[idx L y]?=some k->y<=k.b)/\L.take (idx L y)=L.takeWhile (ltK y)/\L.drop (idx L y)=L.dropWhile (ltK y):=by
 induction L with
 | nil=>simp[idx]
 | cons a L ih =>
  obtain⟨h1,h2,h3,h4,h5⟩:=ih
  by_cases ha:a.b<y
  ·have e:idx (a :: L) y=idx L y+1:=by simp[idx,ltK,ha]
   have t1:(a :: L).takeWhile (ltK y)=a :: L.takeWhile (ltK y):=by simp[ltK,ha]
   have t2:(a :: L).dropWhile (ltK y)=L.dropWhile (ltK y):=by simp[ltK,ha]
   rw[e,t1,t2]
   refine⟨by simp;exact h1,?_,?_,by simp[h4],by simp[h5]⟩
   ·intro j k hj hk
    cases j with
    | zero=>simp at hk;subst hk;exact ha
    | succ j=>exact h2 j k (by omega) (by simpa using hk)
   ·intro k hk
    exact h3 k (by simpa using hk)
  ·have e:idx (a :: L) y=0:=by simp[idx,ltK,ha]
   have t1:(a :: L).takeWhile (ltK y)=[]:=by simp[ltK,ha]
   have t2:(a :: L).dropWhile (ltK y)=a :: L:=by simp[ltK,ha]
   rw[e,t1,t2]
   refine⟨by simp,by intro j k hj;omega,?_,by simp,by simp⟩
   intro k hk
   simp at hk
   subst hk
   omega
variable {L:List Kd}
theorem rise_cut (hR:Rise L) (y:Int):∃ A B,L=A++B/\A.length=idx L y/\(∀ k∈A,k.b<y)/\(B=[]\/∃ h t,B=h :: t/\y<=h.b/\∀ k∈t,h.b<k.b):=by
 obtain⟨h1,h2,h3,h4,h5⟩:=idx_spec L y
 refine⟨L.take (idx L y),L.drop (idx L y),(List.take_append_drop _ _).symm,by simp[h1],?_,?_⟩
 ·intro k hk
  obtain⟨j,hj,rfl⟩:=List.getElem_of_mem hk
  have hj2:j<min (idx L y) L.length:=by simpa using hj
  exact h2 j _ (by omega) (by simp)
 ·cases hd:L.drop (idx L y) with
  | nil=>exact .inl rfl
  | cons h t =>
   refine .inr ⟨h,t,rfl,h3 h ?_,?_⟩
   ·have:=congrArg (·[0]?) hd
    simpa using this
   ·have hp:(L.drop (idx L y)).Pairwise (fun k l=>k.b<l.b):=hR.sublist (List.drop_sublist _ _)
    rw[hd] at hp
    exact fun k hk=>(List.pairwise_cons.1 hp).1 k hk
theorem findK_yes (hR:Rise L) {y:Int} {k:Kd} (hk:L[idx L y]?=some k) (hy:k.b=y):z0p L y=some k:=by
 obtain⟨A,B,rfl,hA,hAl,hB⟩:=rise_cut hR y
 rw[<- hA] at hk
 unfold z0p
 rw[List.find?_append,List.find?_eq_none.2 (fun z hz=>by have:=hAl z hz;simp;omega)]
 rcases hB with rfl|⟨h,t,rfl,h1,h2⟩
 ·simp at hk
 ·simp at hk
  subst hk
  simp[hy]
theorem findK_no (hR:Rise L) {y:Int} (hn:∀ k,L[idx L y]?=some k->k.b≠y):z0p L y=none:=by
 obtain⟨A,B,rfl,hA,hAl,hB⟩:=rise_cut hR y
 unfold z0p
 rw[List.find?_eq_none]
 rcases hB with rfl|⟨h,t,rfl,h1,h2⟩
 ·intro z hz
  have:=hAl z (by simpa using hz)
  simp;omega
 ·have hh:h.b≠y:=hn h (by rw[<- hA];simp)
  intro z hz
  rcases List.mem_append.1 hz with hz|hz
  ·have:=hAl z hz;simp;omega
  ·rcases List.mem_cons.1 hz with rfl|hz
   ·simpa using hh
   ·have:=h2 z hz;simp;omega
theorem findK_iff (hR:Rise L) (y:Int):(∃ k,L[idx L y]?=some k/\k.b=y/\z0p L y=some k)\/((∀ k,L[idx L y]?=some k->k.b≠y)/\z0p L y=none):=by
 cases h:L[idx L y]? with
 | none=>exact .inr ⟨(by intro k hk;cases hk),findK_no hR (by rw[h];intro k hk;cases hk)⟩
 | some k =>
  by_cases hy:k.b=y
  ·exact .inl ⟨k,rfl,hy,findK_yes hR h hy⟩
  ·refine .inr ⟨fun k' hk=>(by cases hk;exact hy),findK_no hR (by rw[h];intro k' hk;cases hk;exact hy)⟩
theorem insK_eq (L:List Kd) (k:Kd):insK L k=L.take (idx L k.b)++k :: L.drop (idx L k.b):=by
 obtain⟨_,_,_,h4,h5⟩:=idx_spec L k.b
 rw[h4,h5];rfl
theorem z2y (L:List Kd) (k:Kd):(insK L k).length=L.length+1:=by
 rw[insK_eq]
 have:=(idx_spec L k.b).1
 simp
 omega
theorem insK_rise (hR:Rise L) {k:Kd} (hn:z0p L k.b=none):Rise (insK L k):=by
 obtain⟨A,B,e,hA,hAl,hB⟩:=rise_cut hR k.b
 rw[insK_eq,<- hA,e,List.take_left,List.drop_left]
 have hne:∀ z∈L,z.b≠k.b:=fun z hz=>by have:=(List.find?_eq_none.1 hn) z hz;simpa using this
 subst e
 have hR2:=List.pairwise_append.1 hR
 refine List.pairwise_append.2 ⟨hR2.1,List.pairwise_cons.2 ⟨?_,hR2.2.1⟩,?_⟩
 ·intro z hz
  rcases hB with rfl|⟨h,t,rfl,h1,h2⟩
  ·cases hz
  ·have hh:=hne h (by simp)
   rcases List.mem_cons.1 hz with rfl|hz
   ·omega
   ·have:=h2 z hz;omega
 ·intro a ha b hb
  rcases List.mem_cons.1 hb with rfl|hb
  ·exact hAl a ha
  ·exact hR2.2.2 a ha b hb
theorem insK_last {k:Kd} (h:∀ z∈L,z.b<k.b):insK L k=L++[k]:=by
 unfold insK
 have e:L.takeWhile (ltK k.b)=L/\L.dropWhile (ltK k.b)=[]:=by
  induction L with
  | nil=>simp
  | cons a L ih =>
   have ha:ltK k.b a=true:=by simpa[ltK] using h a (by simp)
   obtain⟨i1,i2⟩:=ih (fun z hz=>h z (by simp[hz]))
   simp[ha,i1,i2]
 obtain⟨e,e2⟩:=e
 rw[e,e2]
theorem delK_eq (hR:Rise L) {y:Int} {k:Kd} (hk:L[idx L y]?=some k) (hy:k.b=y):delK L y=L.take (idx L y)++L.drop (idx L y+1):=by
 obtain⟨A,B,rfl,hA,hAl,hB⟩:=rise_cut hR y
 rw[<- hA] at hk ⊢
 unfold delK
 rcases hB with rfl|⟨h,t,rfl,h1,h2⟩
 ·simp at hk
 ·simp at hk
  subst hk
  have e1:A.filter (fun z=>decide (z.b≠y))=A:=List.filter_eq_self.2 (fun z hz=>by have:=hAl z hz;simp;omega)
  have e2:t.filter (fun z=>decide (z.b≠y))=t:=List.filter_eq_self.2 (fun z hz=>by have:=h2 z hz;simp;omega)
  rw[List.filter_append,e1,List.filter_cons,if_neg (by simpa using hy),e2,List.take_left,List.drop_append]
  simp
theorem turnK_eq (hR:Rise L) {y s g:Int} {k:Kd} (hk:L[idx L y]?=some k) (hy:k.b=y):z1t L y s g=L.set (idx L y) ⟨y,s,g⟩:=by
 obtain⟨A,B,rfl,hA,hAl,hB⟩:=rise_cut hR y
 rw[<- hA] at hk ⊢
 unfold z1t
 rcases hB with rfl|⟨h,t,rfl,h1,h2⟩
 ·simp at hk
 ·simp at hk
  subst hk
  have e1:A.map (fun k=>if k.b=y then (⟨y,s,g⟩:Kd) else k)=A:=by
   conv=>rhs;rw[<- List.map_id A]
   exact List.map_congr_left (fun z hz=>by have:=hAl z hz;rw[if_neg (by omega)];rfl)
  have e2:t.map (fun k=>if k.b=y then (⟨y,s,g⟩:Kd) else k)=t:=by
   conv=>rhs;rw[<- List.map_id t]
   exact List.map_congr_left (fun z hz=>by have:=h2 z hz;rw[if_neg (by omega)];rfl)
  rw[List.map_append,e1,List.map_cons,if_pos hy,e2,List.set_append_right _ _ (Nat.le_refl _)]
  simp
theorem turnK_rise (hR:Rise L) (y s g:Int):Rise (z1t L y s g):=by
 unfold z1t Rise
 rw[List.pairwise_map]
 refine List.Pairwise.imp (fun {a b} h=>?_) hR
 have e:∀ k:Kd,(if k.b=y then (⟨y,s,g⟩:Kd) else k).b=k.b:=fun k=>by split<;>simp_all
 rw[e,e]
 exact h
structure Mw where
 at':Nat->Nat
 s:Nat->Int
 g:Nat->Int
 u:Nat->Bool
structure ManyAt (T Tr Tb:TypeId) (w:World) (x gr gu r:Nat) (M:Mw):Prop where
 hx:∃ cs,w.heap[x]?=some (.cells cs T (0,0))/\cs.size=258/\(∀ b,b<256->cs[b]?=some (.int .u16 (M.at' b)))/\cs[256]?=some (.slice (some ⟨gr,0,none⟩) r r)/\cs[257]?=some (.slice (some ⟨gu,0,none⟩) r r)
 hr:∃ cs,w.heap[gr]?=some (.cells cs Tr (0,0))/\cs.size=r * 2/\∀ p,p<r->cs[p * 2]?=some (.int .i64 (M.s p))/\cs[p * 2+1]?=some (.int .u32 (M.g p))
 hu:∃ cs,w.heap[gu]?=some (.cells cs Tb (0,0))/\cs.size=r/\∀ p,p<r->cs[p]?=some (.bool (M.u p))
 ne1:x≠gr
 ne2:x≠gu
 ne3:gr≠gu
 r1:48<=r
 r2:r<=256
 at_le:∀ b,b<256->M.at' b<=r
def FirstFree (M:Mw) (r p:Nat):Prop:=p<r/\M.u p=false/\∀ j,j<p->M.u j=true
section
variable {T Tr Tb:TypeId} {w w':World} {x gr gu r:Nat} {M:Mw}
theorem ManyAt.lt (h:ManyAt T Tr Tb w x gr gu r M):x<w.heap.size/\gr<w.heap.size/\gu<w.heap.size:=by
 obtain⟨_,h1,_⟩:=h.hx
 obtain⟨_,h2,_⟩:=h.hr
 obtain⟨_,h3,_⟩:=h.hu
 exact⟨lt_of_block h1,lt_of_block h2,lt_of_block h3⟩
theorem ManyAt.same (h:ManyAt T Tr Tb w x gr gu r M) (e1:w'.heap[x]?=w.heap[x]?) (e2:w'.heap[gr]?=w.heap[gr]?) (e3:w'.heap[gu]?=w.heap[gu]?):ManyAt T Tr Tb w' x gr gu r M :=
 ⟨by obtain⟨c,h1,h2⟩:=h.hx;exact⟨c,e1.trans h1,h2⟩,by obtain⟨c,h1,h2⟩:=h.hr;exact⟨c,e2.trans h1,h2⟩,by obtain⟨c,h1,h2⟩:=h.hu;exact⟨c,e3.trans h1,h2⟩,h.ne1,h.ne2,h.ne3,h.r1,h.r2,h.at_le⟩
theorem ManyAt.keep (h:ManyAt T Tr Tb w x gr gu r M) (k:Below w.heap.size w w'):ManyAt T Tr Tb w' x gr gu r M:=h.same (k.block _ h.lt.1) (k.block _ h.lt.2.1) (k.block _ h.lt.2.2)
theorem ManyAt.mod (h:ManyAt T Tr Tb w x gr gu r M) (k:Mod S w w') (h1:¬ S x) (h2:¬ S gr) (h3:¬ S gu):ManyAt T Tr Tb w' x gr gu r M:=h.same (k.block _ h.lt.1 h1) (k.block _ h.lt.2.1 h2) (k.block _ h.lt.2.2 h3)
theorem ManyAt.alloc (h:ManyAt T Tr Tb w x gr gu r M) (o:Obj):ManyAt T Tr Tb (w.alloc o) x gr gu r M:=h.same (Below.heap_alloc _ _ _ h.lt.1) (Below.heap_alloc _ _ _ h.lt.2.1) (Below.heap_alloc _ _ _ h.lt.2.2)
theorem ManyAt.head (h:ManyAt T Tr Tb w x gr gu r M):w.cell? ⟨x,256,none⟩=some (.slice (some ⟨gr,0,none⟩) r r)/\w.cell? ⟨x,257,none⟩=some (.slice (some ⟨gu,0,none⟩) r r):=by
 obtain⟨c,h1,_,_,h4,h5⟩:=h.hx
 exact⟨(cell_of h1 _).trans h4,(cell_of h1 _).trans h5⟩
theorem ManyAt.at1 (h:ManyAt T Tr Tb w x gr gu r M) {b:Nat} (hb:b<256):w.cell? ⟨x,b,none⟩=some (.int .u16 (M.at' b))/\w.frozen? ⟨x,b,none⟩=false:=by
 obtain⟨c,h1,_,h3,_⟩:=h.hx
 exact⟨(cell_of h1 _).trans (h3 b hb),z0e h1 _⟩
theorem ManyAt.ref (h:ManyAt T Tr Tb w x gr gu r M) {p:Nat} (hp:p<r):w.cell? ⟨gr,p * 2,none⟩=some (.int .i64 (M.s p))/\w.cell? ⟨gr,p * 2+1,none⟩=some (.int .u32 (M.g p))/\∀ j,w.frozen? ⟨gr,j,none⟩=false:=by
 obtain⟨c,h1,_,h3⟩:=h.hr
 exact⟨(cell_of h1 _).trans (h3 p hp).1,(cell_of h1 _).trans (h3 p hp).2,z0e h1⟩
theorem ManyAt.used (h:ManyAt T Tr Tb w x gr gu r M) {p:Nat} (hp:p<r):w.cell? ⟨gu,p,none⟩=some (.bool (M.u p))/\w.frozen? ⟨gu,p,none⟩=false:=by
 obtain⟨c,h1,_,h3⟩:=h.hu
 exact⟨(cell_of h1 _).trans (h3 p hp),z0e h1 _⟩
def Mw.setU (M:Mw) (p:Nat) (v:Bool):Mw:={ M with u:=fun j=>if j=p then v else M.u j }
def Mw.setR (M:Mw) (p:Nat) (s g:Int):Mw:={ M with s:=fun j=>if j=p then s else M.s j,g:=fun j=>if j=p then g else M.g j }
def Mw.setA (M:Mw) (b v:Nat):Mw:={ M with at':=fun j=>if j=b then v else M.at' j }
theorem put_get {j:Nat} (hi:i<cs.size):(cs.setIfInBounds i v)[j]?=if j=i then some v else cs[j]?:=by
 rw[Array.getElem?_setIfInBounds]
 by_cases h:i=j
 ·subst h;simp[hi]
 ·rw[if_neg h,if_neg (fun e=>h e.symm)]
theorem ManyAt.setU (h:ManyAt T Tr Tb w x gr gu r M) {p:Nat} (hp:p<r) (v:Bool):ManyAt T Tr Tb (w.setCell ⟨gu,p,none⟩ (.bool v)) x gr gu r (M.setU p v):=by
 refine⟨?_,?_,?_,h.ne1,h.ne2,h.ne3,h.r1,h.r2,h.at_le⟩
 ·obtain⟨c,h1,h2⟩:=h.hx
  exact⟨c,(Below.heap_setCell _ _ _ _ (fun e=>h.ne2 e)).trans h1,h2⟩
 ·obtain⟨c,h1,h2⟩:=h.hr
  exact⟨c,(Below.heap_setCell _ _ _ _ (fun e=>h.ne3 e)).trans h1,h2⟩
 ·obtain⟨c,h1,h2,h3⟩:=h.hu
  refine⟨_,heap_set h1,by simpa using h2,fun j hj=>?_⟩
  rw[put_get (by omega)]
  unfold Mw.setU
  by_cases e:j=p
  ·simp only[if_pos e]
  ·simp only[if_neg e];exact h3 j hj
theorem ManyAt.setR (h:ManyAt T Tr Tb w x gr gu r M) {p:Nat} (hp:p<r) (s g:Int):ManyAt T Tr Tb ((w.setCell ⟨gr,p * 2,none⟩ (.int .i64 s)).setCell ⟨gr,p * 2+1,none⟩ (.int .u32 g)) x gr gu r (M.setR p s g):=by
 have e:∀ (k i j:Nat) (u v:Value),k≠gr->((w.setCell ⟨gr,i,none⟩ u).setCell ⟨gr,j,none⟩ v).heap[k]?=w.heap[k]?:=fun k i j u v hk=>(Below.heap_setCell _ _ _ _ hk).trans (Below.heap_setCell _ _ _ _ hk)
 refine⟨?_,?_,?_,h.ne1,h.ne2,h.ne3,h.r1,h.r2,h.at_le⟩
 ·obtain⟨c,h1,h2⟩:=h.hx
  exact⟨c,(e _ _ _ _ _ h.ne1).trans h1,h2⟩
 ·obtain⟨c,h1,h2,h3⟩:=h.hr
  refine⟨_,heap_set (heap_set h1),by simpa using h2,fun j hj=>?_⟩
  rw[put_get (by simp;omega),put_get (by omega),put_get (by simp;omega),put_get (by omega)]
  unfold Mw.setR
  by_cases ej:j=p
  ·subst ej
   rw[if_neg (by omega),if_pos rfl,if_pos rfl]
   simp
  ·rw[if_neg (by omega),if_neg (by omega),if_neg (by omega),if_neg (by omega)]
   simp only[if_neg ej]
   exact h3 j hj
 ·obtain⟨c,h1,h2⟩:=h.hu
  exact⟨c,(e _ _ _ _ _ (fun e=>h.ne3 e.symm)).trans h1,h2⟩
theorem ManyAt.setA (h:ManyAt T Tr Tb w x gr gu r M) {b v:Nat} (hb:b<256) (hv:v<=r):ManyAt T Tr Tb (w.setCell ⟨x,b,none⟩ (.int .u16 v)) x gr gu r (M.setA b v):=by
 refine⟨?_,?_,?_,h.ne1,h.ne2,h.ne3,h.r1,h.r2,fun j hj=>?_⟩
 ·obtain⟨c,h1,h2,h3,h4,h5⟩:=h.hx
  refine⟨_,heap_set h1,by simpa using h2,fun j hj=>?_,?_,?_⟩
  ·rw[put_get (by omega)]
   unfold Mw.setA
   by_cases e:j=b
   ·simp only[if_pos e]
   ·simp only[if_neg e];exact h3 j hj
  ·rw[put_get (by omega),if_neg (by omega)];exact h4
  ·rw[put_get (by omega),if_neg (by omega)];exact h5
 ·obtain⟨c,h1,h2⟩:=h.hr
  exact⟨c,(Below.heap_setCell _ _ _ _ (fun e=>h.ne1 e.symm)).trans h1,h2⟩
 ·obtain⟨c,h1,h2⟩:=h.hu
  exact⟨c,(Below.heap_setCell _ _ _ _ (fun e=>h.ne2 e.symm)).trans h1,h2⟩
 ·unfold Mw.setA
  by_cases e:j=b
  ·simp only[if_pos e];exact hv
  ·simp only[if_neg e];exact h.at_le j hj
end
end Go.Burg
namespace Go.Proofs.YtgdmfledhhoedaaGreatDoor.M
set_option maxRecDepth 8000
open Go.ChangeShapes Go.WideShapes Go.ChangeAt Go.RowKit Go.Burg
section
variable {w:World} {x gr gu r:Nat} {M:Mw}
theorem z1i (h:ManyAt 251 36 4 w x gr gu r M):Calls Tryz.prog 208 #[.pointer (some ⟨x,0,none⟩)] w fun e w'=>e=.returned (.bool true)/\w=w':=by
 have c1:=h.head.1
 have hd:decide ((r:Int) > 0)=true:=by have:=h.r1;simp;omega
 go_enter Tryz.func208,Tryz.ntmps208
 go_wp2
 go_ret
 first|exact⟨rfl,rfl⟩|exact⟨by simp;have:=h.r1;omega,rfl⟩
theorem has_at (b:Nat) (hb:b<256) (h:ManyAt 251 36 4 w x gr gu r M):Calls Tryz.prog 206 #[.pointer (some ⟨x,0,none⟩),.int .i64 b] w fun e w'=>e=.returned (.bool (decide (0<M.at' b)))/\w=w':=by
 have c1:=(h.at1 hb).1
 have hd:decide ((256:Int)<=(b:Int))=false:=by simp;omega
 have hd2:decide (256<=b)=false:=by simp;omega
 clear h
 go_enter Tryz.func206,Tryz.ntmps206
 go_wp2
 go_ret
 exact⟨by simp,rfl⟩
theorem ref_at (b p:Nat) (hb:b<256) (h:ManyAt 251 36 4 w x gr gu r M) (hp:M.at' b=p+1):Calls Tryz.prog 207 #[.pointer (some ⟨x,0,none⟩),.int .i64 b] w fun e w'=>e=.returned (.pointer (some ⟨gr,p * 2,none⟩))/\Below w.heap.size w w':=by
 have c1:=(h.at1 hb).1
 rw[hp] at c1
 have c2:=h.head.1
 have hpr:p<r:=by have:=h.at_le b hb;omega
 have hr:=h.r2
 have hd2:decide (256<=b)=false:=by simp;omega
 have hd3:decide (r<=p)=false:=by simp;omega
 clear h hp
 go_enter Tryz.func207,Tryz.ntmps207
 go_wp2_with fail
 go_quiet (fail)
 go_wp2
 go_ret
 exact⟨rfl,⟨rfl,rfl,rfl,Nat.le_refl _,fun _ _=>rfl⟩⟩
theorem index_at (p:Nat) (h:ManyAt 251 36 4 w x gr gu r M) (hp:FirstFree M r p):Calls Tryz.prog 212 #[.slice (some ⟨gu,0,none⟩) r r,.bool false] w fun e w'=>e=.returned (.int .i64 p)/\w=w':=by
 have H:=hid h
 have HP:=hid hp
 have hr:=h.r2
 clear h hp
 go_enter Tryz.func212,Tryz.ntmps212
 go_wp2_with fail
 go_loopw [8] (fun iv wr=>∃ k:Nat,k<=p/\iv=.int .i64 k/\wr=w) (fun iv _=>r - (intOf iv).toNat)
 case atStart=>exact⟨0,Nat.zero_le _,rfl,rfl⟩
 case round =>
  obtain⟨k,hk,rfl,rfl⟩:=hrel
  have hpr:=HP.out.1
  have hlt:k<r:=by omega
  have c0:=(H.out.used hlt).1
  have hd:decide (r<=k)=false:=by simp;omega
  by_cases hkp:k<p
  ·rw[HP.out.2.2 k hkp] at c0
   go_wp2_with fail
   go_roundw
   case rel=>exact⟨k+1,by omega,by go_num,by first|rfl|trivial⟩
   case measure=>simp[intOf];omega
  ·obtain rfl:k=p:=by omega
   rw[HP.out.2.1] at c0
   go_wp2_with fail
   go_ret
   exact⟨rfl,rfl⟩
end
end Go.Proofs.YtgdmfledhhoedaaGreatDoor.M
namespace Go.Burg
open Go
def Turn3 (c1 c2 c3:Nat) (S:Bool->Bool->Bool->World->Prop):(Nat->Bool)->World->Prop:=fun D w=>S (D c1) (D c2) (D c3) w
variable {w:World}
section
variable {P:Program} {ops:Array Oper} {S:Bool->Bool->Bool->World->Prop} {c1 c2 c3 k:Nat} {o:Oper} {l:List Oper} {a a':Act} {K:Act->Prop}
theorem Seq3.calm (h1:c1≠k) (h2:c2≠k) (h3:c3≠k) (h:∀ b1 b2 b3 w,S b1 b2 b3 w->wpList P ops (z2m fun a1 w'=>a1=a'/\S b1 b2 b3 w') [o] a w)
 (hp:a'=a.put o.dst (a'.tmps.getD (o.dst.getD 0) undef)) (k1:SeqI P ops (Turn3 c1 c2 c3 S) (k+1) l a' K):SeqI P ops (Turn3 c1 c2 c3 S) k (o :: l) a K :=
 ⟨a',fun D w _ _ hI=>z0u _ _ (by
  rintro a1 w' ⟨rfl,hw⟩
  refine⟨rfl,?_⟩
  unfold Turn3
  have e1:(c1 == k)=false:=by simpa using h1
  have e2:(c2 == k)=false:=by simpa using h2
  have e3:(c3 == k)=false:=by simpa using h3
  simpa[e1,e2,e3] using hw) (h _ _ _ w hI),hp,k1⟩
theorem Seq3.at1 (h2:c2≠c1) (h3:c3≠c1) (h:∀ b2 b3 w,S false b2 b3 w->wpList P ops (z2m fun a1 w'=>a1=a'/\S true b2 b3 w') [o] a w)
 (hp:a'=a.put o.dst (a'.tmps.getD (o.dst.getD 0) undef)) (k1:SeqI P ops (Turn3 c1 c2 c3 S) (c1+1) l a' K):SeqI P ops (Turn3 c1 c2 c3 S) c1 (o :: l) a K :=
 ⟨a',fun D w hD _ hI=>z0u _ _ (by
  rintro a1 w' ⟨rfl,hw⟩
  refine⟨rfl,?_⟩
  unfold Turn3
  have e2:(c2 == c1)=false:=by simpa using h2
  have e3:(c3 == c1)=false:=by simpa using h3
  simpa[e2,e3] using hw) (h (D c2) (D c3) w (by unfold Turn3 at hI;rw[hD] at hI;exact hI)),hp,k1⟩
theorem Seq3.at2 (h1:c1≠c2) (h3:c3≠c2) (h:∀ b1 b3 w,S b1 false b3 w->wpList P ops (z2m fun a1 w'=>a1=a'/\S b1 true b3 w') [o] a w)
 (hp:a'=a.put o.dst (a'.tmps.getD (o.dst.getD 0) undef)) (k1:SeqI P ops (Turn3 c1 c2 c3 S) (c2+1) l a' K):SeqI P ops (Turn3 c1 c2 c3 S) c2 (o :: l) a K :=
 ⟨a',fun D w hD _ hI=>z0u _ _ (by
  rintro a1 w' ⟨rfl,hw⟩
  refine⟨rfl,?_⟩
  unfold Turn3
  have e1:(c1 == c2)=false:=by simpa using h1
  have e3:(c3 == c2)=false:=by simpa using h3
  simpa[e1,e3] using hw) (h (D c1) (D c3) w (by unfold Turn3 at hI;rw[hD] at hI;exact hI)),hp,k1⟩
theorem Seq3.at3 (h1:c1≠c3) (h2:c2≠c3) (h:∀ b1 b2 w,S b1 b2 false w->wpList P ops (z2m fun a1 w'=>a1=a'/\S b1 b2 true w') [o] a w)
 (hp:a'=a.put o.dst (a'.tmps.getD (o.dst.getD 0) undef)) (k1:SeqI P ops (Turn3 c1 c2 c3 S) (c3+1) l a' K):SeqI P ops (Turn3 c1 c2 c3 S) c3 (o :: l) a K :=
 ⟨a',fun D w hD _ hI=>z0u _ _ (by
  rintro a1 w' ⟨rfl,hw⟩
  refine⟨rfl,?_⟩
  unfold Turn3
  have e1:(c1 == c3)=false:=by simpa using h1
  have e2:(c2 == c3)=false:=by simpa using h2
  simpa[e1,e2] using hw) (h (D c1) (D c2) w (by unfold Turn3 at hI;rw[hD] at hI;exact hI)),hp,k1⟩
theorem Turn3.start (h:S false false false w):Turn3 c1 c2 c3 S (fun _=>false) w:=h
theorem Turn3.done {D:Nat->Bool} (h:Turn3 c1 c2 c3 S D w) (h1:D c1=true) (h2:D c2=true) (h3:D c3=true):S true true true w:=by
 unfold Turn3 at h
 rwa [h1,h2,h3] at h
end
open Go.RowKit
theorem run_copy_rowc {P:Program} (w:World) (dT sT ty elem:TypeId) (g o dLen dCap:Nat) (a:Addr) (sLen sCap:Nat) (cur:Array Value) (t:TypeId) (cs:List Value) (c:Nat)
 (hu:P.underlying dT=some (.slice elem)) (hs:(P.info? elem).map (·.size)=some c)
 (hg:w.heap[g]?=some (.cells cur t (0,0))) (hn:cs.length=Nat.min sLen dLen * c)
 (hsrc:∀ j v,cs[j]?=some v->w.cell? (a.add j)=some v) (hfit:o+cs.length<=cur.size) (h1:∀ v∈cs,v.oneCell'=true) :
 (Builtin.copy_ #[dT,sT] ty #[.slice (some ⟨g,o,none⟩) dLen dCap,.slice (some a) sLen sCap]).run P w =
  .ok (goInt (Nat.min sLen dLen)) (w.setRow g (cur.toList.take o++cs++cur.toList.drop (o+cs.length)).toArray):=by
 have hl:=run_loadCells_list (P:=P) w a cs hsrc
 have hst:=run_storeCells_at P g o t cs 0 cur w hg (by simpa using hfit) h1
 cases hq:P.info? elem with
 | none=>simp[hq] at hs
 | some i =>
  have hi:i.size=c:=by simpa[hq] using hs
  simp[Builtin.copy_,run_underlying hu,Builtin.lenOf,Builtin.firstCells,sizeOf,typeInfo,hq,hi,<- hn,hl,hst]
structure Fw where
 b:Nat->Int
 s:Nat->Int
 g:Nat->Int
 n:Nat
 room:Nat
def fwB (F:Fw):List Value:=(List.range 16).map fun i=>.int .u8 (F.b i)
def fwR (F:Fw):List Value:=(List.range 16).flatMap fun i=>[.int .i64 (F.s i),.int .u32 (F.g i)]
def FwRow (F:Fw):List Value:=fwB F++fwR F++[.int .i64 F.n,.int .i64 F.room]
def FwAt (T:TypeId) (w:World) (x:Nat) (F:Fw):Prop:=w.heap[x]?=some (.cells (FwRow F).toArray T (0,0))
section
variable {T:TypeId} {w w':World} {x:Nat} {F:Fw}
theorem fwB_len (F:Fw):(fwB F).length=16:=by simp[fwB]
theorem fwR_len (F:Fw):(fwR F).length=32:=rfl
theorem fwR_at (F:Fw) {i:Nat} (hi:i<16):(fwR F)[i * 2]?=some (.int .i64 (F.s i))/\(fwR F)[i * 2+1]?=some (.int .u32 (F.g i)):=by
 have h:∀ i:Fin 16,(fwR F)[i.val * 2]?=some (.int .i64 (F.s i.val))/\(fwR F)[i.val * 2+1]?=some (.int .u32 (F.g i.val)):=by
  intro i
  rcases i with ⟨i,h⟩
  rcases (by omega:i=0\/i=1\/i=2\/i=3\/i=4\/i=5\/i=6\/i=7\/i=8\/i=9\/i=10\/i=11\/i=12\/i=13\/i=14\/i=15) with rfl|rfl|rfl|rfl|rfl|rfl|rfl|rfl|rfl|rfl|rfl|rfl|rfl|rfl|rfl|rfl<;>exact⟨rfl,rfl⟩
 exact h ⟨i,hi⟩
theorem FwAt.lt (h:FwAt T w x F):x<w.heap.size:=lt_of_block h
theorem FwAt.same (h:FwAt T w x F) (e:w'.heap[x]?=w.heap[x]?):FwAt T w' x F:=e.trans h
theorem FwAt.free (h:FwAt T w x F) (j:Nat):w.frozen? ⟨x,j,none⟩=false:=z0e h j
theorem FwAt.byte (h:FwAt T w x F) {i:Nat} (hi:i<16):w.cell? ⟨x,i,none⟩=some (.int .u8 (F.b i)):=by
 refine (cell_of h i).trans ?_
 rw[List.getElem?_toArray]
 unfold FwRow
 rw[List.append_assoc,List.getElem?_append_left (by rw[fwB_len];exact hi)]
 simp[fwB,hi]
theorem FwAt.ref (h:FwAt T w x F) {i:Nat} (hi:i<16):w.cell? ⟨x,16+i * 2,none⟩=some (.int .i64 (F.s i))/\w.cell? ⟨x,16+i * 2+1,none⟩=some (.int .u32 (F.g i)):=by
 have e:∀ j,j<32->w.cell? ⟨x,16+j,none⟩=(fwR F)[j]?:=fun j hj=>by
  refine (cell_of h _).trans ?_
  rw[List.getElem?_toArray]
  unfold FwRow
  rw[List.append_assoc,List.getElem?_append_right (by rw[fwB_len];omega),fwB_len,List.getElem?_append_left (by rw[fwR_len];omega)]
  congr 1
  omega
 obtain⟨h1,h2⟩:=fwR_at F hi
 exact⟨(e _ (by omega)).trans h1,(e (i * 2+1) (by omega)).trans h2⟩
theorem FwAt.num (h:FwAt T w x F):w.cell? ⟨x,48,none⟩=some (.int .i64 F.n)/\w.cell? ⟨x,49,none⟩=some (.int .i64 F.room):=by
 have e:∀ j,w.cell? ⟨x,48+j,none⟩=([.int .i64 F.n,.int .i64 F.room]:List Value)[j]?:=fun j=>by
  refine (cell_of h _).trans ?_
  rw[List.getElem?_toArray]
  unfold FwRow
  rw[List.getElem?_append_right (by rw[List.length_append,fwB_len,fwR_len];omega),List.length_append,fwB_len,fwR_len]
  congr 1
  omega
 exact⟨e 0,e 1⟩
end
def IdxAt (F:Fw) (n:Nat) (y:Int) (i:Nat):Prop:=i<=n/\(∀ j,j<i->F.b j<y)/\(i<n->y<=F.b i)
end Go.Burg
namespace Go.Proofs.YtgdmfledhhoedaaGreatDoor.F
set_option maxRecDepth 8000
open Go.ChangeShapes Go.WideShapes Go.ChangeAt Go.RowKit Go.Burg
variable {F:Fw} {c i x:Nat}
theorem z1i (w:World) (h:FwAt 244 w x F) (hr:1<=F.room):Calls Tryz.prog 190 #[.pointer (some ⟨x,0,none⟩)] w fun e w'=>e=.returned (.bool true)/\w=w':=by
 have c1:=h.num.2
 have hd:decide ((F.room:Int) > 0)=true:=by simp;omega
 go_enter Tryz.func190,Tryz.ntmps190
 go_wp2
 go_ret
 first|exact⟨rfl,rfl⟩|exact⟨by simp;omega,rfl⟩
variable {y:Int}
theorem at1_any (z:Int) (w:World) (h:w.heap[c]?=some (.cells #[.int .u8 y] 5 (0,0))):Calls Tryz.prog 194 #[.int .u8 z,.pointer (some ⟨c,0,none⟩)] w fun e w'=>e=.returned (.bool (decide (y<=z)))/\w=w':=by
 have c0:=cell_of h 0
 go_enter Tryz.func194,Tryz.ntmps194
 go_wp2
 go_ret
 first|exact⟨rfl,rfl⟩|exact⟨by simp,rfl⟩
theorem index_at {cp:Nat} (w:World) (h:FwAt 244 w x F) (hn:F.n<=16) (hc:w.heap[c]?=some (.cells #[.int .u8 y] 5 (0,0))) (hi:IdxAt F F.n y i) :
 Calls Tryz.prog 195 #[.slice (some ⟨x,0,none⟩) F.n cp,.func (.func 194) #[] #[.pointer (some ⟨c,0,none⟩)]] w fun e w'=>e=.returned (.int .i64 (if i<F.n then (i:Int) else -1))/\w=w':=by
 have HI:=hid hi
 have HC:=hid hc
 clear hi
 go_enter Tryz.func195,Tryz.ntmps195
 go_wp2_with fail
 go_loopw [8] (fun iv wr=>∃ k:Nat,k<=i/\iv=.int .i64 k/\wr=w) (fun iv _=>F.n - (intOf iv).toNat)
 case atStart=>exact⟨0,Nat.zero_le _,rfl,rfl⟩
 case round =>
  obtain⟨k,hk,rfl,rfl⟩:=hrel
  have hin:=HI.out.1
  by_cases hlt:k<F.n
  ·have b0:=h.byte (show k<16 by omega)
   by_cases hki:k<i
   ·have hb:decide (y<=F.b k)=false:=by have:=HI.out.2.1 k hki;simp;omega
    have HA:=hid (at1_any (y:=y) (F.b k) wr HC.out)
    rw[hb] at HA
    clear hb
    go_wp2_with (go_at_call 194;refine HA.out.mono ?_;rintro e w2 ⟨rfl,rfl⟩)
    go_roundw
    case rel=>exact⟨k+1,by omega,by go_num,by first|rfl|trivial⟩
    case measure=>simp[intOf];omega
   ·obtain rfl:k=i:=by omega
    have hb:decide (y<=F.b k)=true:=by have:=HI.out.2.2 hlt;simp;omega
    have HA:=hid (at1_any (y:=y) (F.b k) wr HC.out)
    rw[hb] at HA
    clear hb
    go_wp2_with (go_at_call 194;refine HA.out.mono ?_;rintro e w2 ⟨rfl,rfl⟩)
    go_ret
    exact⟨by simp,rfl⟩
  ·obtain rfl:k=F.n:=by omega
   obtain rfl:i=F.n:=by omega
   go_wp2_with fail
   go_ret
   exact⟨by simp,rfl⟩
theorem len16:Tryz.prog.arrayLen 239=16:=by kernel_rfl
theorem size16 (w:World):(sizeOf (Tryz.prog.elem 239)).run Tryz.prog w=.ok 1 w:=by kernel_rfl
theorem slice16 (x n:Nat) (hn:n<=16) (w:World):(Instr.sliceAt 239 (.pointer (some ⟨x,0,none⟩)) none (some (.int .i64 n)) none).run Tryz.prog w=.ok (.slice (some ⟨x,0,none⟩) n 16) w:=by
 rw[run_sliceAt_array_h w 239 ⟨x,0,none⟩ (by kernel_rfl) .i64 n (by omega) (by rw[len16];omega),size16,len16]
 simp[Result.andThen,slicedAt,Addr.add]
set_option maxHeartbeats 1000000 in
theorem of_at (w:World) (h:FwAt 244 w x F) (hn:F.n<=16) (hc:w.heap[c]?=some (.cells #[.int .u8 y] 5 (0,0))) (hi:IdxAt F F.n y i) :
 Calls Tryz.prog 193 #[.pointer (some ⟨x,0,none⟩),.func (.func 194) #[] #[.pointer (some ⟨c,0,none⟩)]] w fun e w'=>e=.returned (.int .i64 i)/\Below w.heap.size w w':=by
 have HF:=hid h
 have HI:=hid hi
 have HX:Hid (∀ w1,Below w.heap.size w w1->Calls Tryz.prog 195 #[.slice (some ⟨x,0,none⟩) F.n 16,.func (.func 194) #[] #[.pointer (some ⟨c,0,none⟩)]] w1 fun e w'=>e=.returned (.int .i64 (if i<F.n then (i:Int) else -1))/\Below w1.heap.size w1 w'):=hid fun w1 hw1=>by
  refine (index_at w1 (h.same (hw1.block x h.lt)) hn (by rw[hw1.block c (lt_of_block hc)];exact hc) hi).mono ?_
  rintro e w' ⟨rfl,rfl⟩
  exact⟨rfl,Below.refl _ _⟩
 have hle:i<=F.n:=hi.1
 have hsl:=slice16 x F.n hn
 clear h hc hi
 by_cases hlt:i<F.n
 ·simp only[hlt,if_true] at HX
  have HLT:=hid hlt
  clear hlt
  go_enter Tryz.func193,Tryz.ntmps193
  go_wp2_with fail
  refine z0g 11 (fun w1=>Below (w).heap.size (w) w1) (by kernel_rfl) (by kernel_rfl) (by kernel_rfl) ⟨rfl,rfl,rfl,Nat.le_refl _,fun _ _=>rfl⟩ ?_
  dsimp only[List.take]
  iterate 11
   refine Seq.cons (a':=?_) ?_ ?_ ?_
   rotate_left
   ·intro w1 hw1
    have hF1:=HF.out.same (hw1.block x HF.out.lt);have n0:=hF1.num.1
    go_wp2_with (go_at_call 195;refine (HX.out _ hw1).mono ?_;rintro e w' ⟨rfl,hb⟩)
    refine⟨?_,by first|assumption|(simpa using z0d hw1 hb hw1.size)⟩
    exact rfl
   ·kernel_rfl
  refine SeqI.nil ?_
  intro _ w1 _ hw1
  dsimp only[List.drop]
  go_wp2
  go_ret
  exact⟨rfl,hw1⟩
 ·simp only[hlt,if_false] at HX
  obtain rfl:i=F.n:=by omega
  clear hlt
  go_enter Tryz.func193,Tryz.ntmps193
  go_wp2_with fail
  refine z0g 11 (fun w1=>Below (w).heap.size (w) w1) (by kernel_rfl) (by kernel_rfl) (by kernel_rfl) ⟨rfl,rfl,rfl,Nat.le_refl _,fun _ _=>rfl⟩ ?_
  dsimp only[List.take]
  iterate 11
   refine Seq.cons (a':=?_) ?_ ?_ ?_
   rotate_left
   ·intro w1 hw1
    have hF1:=HF.out.same (hw1.block x HF.out.lt);have n0:=hF1.num.1
    go_wp2_with (go_at_call 195;refine (HX.out _ hw1).mono ?_;rintro e w' ⟨rfl,hb⟩)
    refine⟨?_,by first|assumption|(simpa using z0d hw1 hb hw1.size)⟩
    exact rfl
   ·kernel_rfl
  refine SeqI.nil ?_
  intro _ w1 _ hw1
  dsimp only[List.drop]
  have hF1:=HF.out.same (hw1.block x HF.out.lt)
  have n0:=hF1.num.1
  clear hF1
  go_wp2
  go_ret
  exact⟨rfl,hw1⟩
theorem blk0 {w w1:World} {b:Nat} {o:Obj} (h:w.heap[b]?=some o) (hb:Below w.heap.size w w1):w1.heap[b]?=some o:=(hb.block b (lt_of_block h)).trans h
set_option maxHeartbeats 1000000 in
theorem fat_at (w:World) (h:FwAt 244 w x F) (hn:F.n<=16) (hi:IdxAt F F.n y i) (r:Bool) (hr:(decide (i<F.n) && decide (F.b i=y))=r) :
 Calls Tryz.prog 191 #[.pointer (some ⟨x,0,none⟩),.int .u8 y] w fun e w'=>e=.returned (.tuple #[.int .i64 i,.bool r])/\Below w.heap.size w w':=by
 have hmf:=makeF Tryz.prog
 have hc:=z0a w (.cells #[.int .u8 y] 5 (0,0))
 have hF:FwAt 244 (w.alloc (.cells #[.int .u8 y] 5 (0,0))) x F:=h.same (Below.heap_alloc _ _ _ h.lt)
 have HO:=hid (of_at (w.alloc (.cells #[.int .u8 y] 5 (0,0))) hF hn hc hi)
 have hB:Below w.heap.size w (w.alloc (.cells #[.int .u8 y] 5 (0,0))):=(Below.refl _ _).alloc (Nat.le_refl _) _
 have hle:i<=F.n:=hi.1
 have HF0:=hid hF
 have HC0:=hid hc
 have HB:=hid hB
 clear h hc hF hB hi
 go_enter Tryz.func191,Tryz.ntmps191
 go_wp2_with (go_at_call 193;refine HO.out.mono ?_;rintro e wa ⟨rfl,hb0⟩)
 have HF:=hid (HF0.out.same (hb0.block x HF0.out.lt))
 have HC:=hid (blk0 HC0.out hb0)
 have HB1:=hid (z0d HB.out hb0 HB.out.size)
 clear hb0 HO HF0 HC0 HB
 by_cases hlt:i<F.n
 ·have hi16:i<16:=by omega
  have hd:decide ((i:Int)<F.n)=true:=by simp;exact hlt
  have hd3:decide (i<F.n)=true:=by simp;exact hlt
  have hd2:decide (16<=i)=false:=by simp;omega
  have hr':(F.b i == y)=r:=by rw[<- hr];simp[hlt];rfl
  have HR:=hid hr'
  clear hr hlt hr'
  refine z0g 19 (fun w1=>Below (wa).heap.size (wa) w1) (by kernel_rfl) (by kernel_rfl) (by kernel_rfl) ⟨rfl,rfl,rfl,Nat.le_refl _,fun _ _=>rfl⟩ ?_
  dsimp only[List.take]
  iterate 19
   refine Seq.cons (a':=?_) ?_ ?_ ?_
   rotate_left
   ·intro w1 hw1
    have hF1:=HF.out.same (hw1.block x HF.out.lt);have n0:=hF1.num.1;have y0:=cell_of (blk0 HC.out hw1) 0;have b0:=hF1.byte hi16
    go_wp2_with (fail)
    refine⟨?_,by first|assumption|(simpa using z0d hw1 hb hw1.size)⟩
    exact rfl
   ·kernel_rfl
  refine SeqI.nil ?_
  intro _ w1 _ hw1
  dsimp only[List.drop]
  go_wp2
  go_ret2
  exact⟨by first|rfl|simp[HR.out],HB1.out.trans (hw1.mono HB1.out.size)⟩
 ·obtain rfl:i=F.n:=by omega
  have hr':r=false:=by rw[<- hr];simp
  subst hr'
  clear hr hlt
  refine z0g 19 (fun w1=>Below (wa).heap.size (wa) w1) (by kernel_rfl) (by kernel_rfl) (by kernel_rfl) ⟨rfl,rfl,rfl,Nat.le_refl _,fun _ _=>rfl⟩ ?_
  dsimp only[List.take]
  iterate 19
   refine Seq.cons (a':=?_) ?_ ?_ ?_
   rotate_left
   ·intro w1 hw1
    have hF1:=HF.out.same (hw1.block x HF.out.lt);have n0:=hF1.num.1;have y0:=cell_of (blk0 HC.out hw1) 0
    go_wp2_with (fail)
    refine⟨?_,by first|assumption|(simpa using z0d hw1 hb hw1.size)⟩
    exact rfl
   ·kernel_rfl
  refine SeqI.nil ?_
  intro _ w1 _ hw1
  dsimp only[List.drop]
  go_wp2
  go_ret2
  exact⟨rfl,HB1.out.trans (hw1.mono HB1.out.size)⟩
def fw0 (r:Nat):Fw:=⟨fun _=>0,fun _=>0,fun _=>0,0,r⟩
theorem fNew_at (r:Nat) (hr:r=4\/r=16) (w:World):Calls Tryz.prog 121 #[.int .i64 r] w fun e w'=>e=.returned (.tuple #[.pointer (some ⟨w.heap.size,0,none⟩),.int .i64 0])/\FwAt 244 w' w.heap.size (fw0 r)/\Below w.heap.size w w':=by
 rcases hr with rfl|rfl
 all_goals
  go_enter Tryz.func121,Tryz.ntmps121
  go_wp2
  go_ret2
  exact⟨rfl,z0a _ _,(Below.refl _ _).alloc (Nat.le_refl _) _⟩
set_option maxHeartbeats 1000000 in
theorem fFind_yes (w:World) (h:FwAt 244 w x F) (hn:F.n<=16) (hr:1<=F.room) (hi:IdxAt F F.n y i) (hlt:i<F.n) (hy:F.b i=y) :
 Calls Tryz.prog 183 #[.pointer (some ⟨x,0,none⟩),.int .u8 y] w fun e w'=>e=.returned (.tuple #[.agg #[.int .i64 (F.s i),.int .u32 (F.g i)],.bool true])/\Below w.heap.size w w':=by
 have hk:=z0a w (.cells #[.int .i64 0,.int .u32 0] 36 (0,0))
 have hF:FwAt 244 (w.alloc (.cells #[.int .i64 0,.int .u32 0] 36 (0,0))) x F:=h.same (Below.heap_alloc _ _ _ h.lt)
 have hB:Below w.heap.size w (w.alloc (.cells #[.int .i64 0,.int .u32 0] 36 (0,0))):=(Below.refl _ _).alloc (Nat.le_refl _) _
 have HT:=hid (z1i _ hF hr)
 have HA:=hid (fat_at (w.alloc (.cells #[.int .i64 0,.int .u32 0] 36 (0,0))) hF hn hi true (by simp[hlt,hy]))
 have HF0:=hid hF
 have HK0:=hid hk
 have HB:=hid hB
 have hi16:i<16:=by omega
 have hd2:decide (16<=i)=false:=by simp;omega
 have hne:w.heap.size≠x:=by have:=h.lt;omega
 clear h hk hF hB hi hlt hy
 go_enter Tryz.func183,Tryz.ntmps183
 go_wp2_with (first|(go_at_call 190;refine HT.out.mono ?_;rintro e w2 ⟨rfl,rfl⟩)|(go_at_call 191;refine HA.out.mono ?_;rintro e wa ⟨rfl,hb⟩;have hF1:=HF0.out.same (hb.block x HF0.out.lt);have hR:=hF1.ref hi16;have r0:=hR.1;have r1:=hR.2;have hK:=blk0 HK0.out hb;have q0:=cell_of hK 0;have q1:=cell_of hK 1;have qf:=z0e hK;have HB1:=hid (z0d HB.out hb HB.out.size);clear hb hF1 hR hK))
 refine bodyPost_ret (v:=.tuple #[.agg #[_,_],_]) (by simp[results,Tryz.results183,go_sem,q0,q1]) rfl ⟨rfl,?_⟩
 exact (HB1.out.setCell (Nat.le_refl _) _).setCell (Nat.le_refl _) _
set_option maxHeartbeats 1000000 in
theorem fFind_no (w:World) (h:FwAt 244 w x F) (hn:F.n<=16) (hr:1<=F.room) (hi:IdxAt F F.n y i) (hno:¬ (i<F.n/\F.b i=y)) :
 Calls Tryz.prog 183 #[.pointer (some ⟨x,0,none⟩),.int .u8 y] w fun e w'=>e=.returned (.tuple #[.agg #[.int .i64 0,.int .u32 0],.bool false])/\Below w.heap.size w w':=by
 have hk:=z0a w (.cells #[.int .i64 0,.int .u32 0] 36 (0,0))
 have hF:FwAt 244 (w.alloc (.cells #[.int .i64 0,.int .u32 0] 36 (0,0))) x F:=h.same (Below.heap_alloc _ _ _ h.lt)
 have hB:Below w.heap.size w (w.alloc (.cells #[.int .i64 0,.int .u32 0] 36 (0,0))):=(Below.refl _ _).alloc (Nat.le_refl _) _
 have HT:=hid (z1i _ hF hr)
 have HA:=hid (fat_at (w.alloc (.cells #[.int .i64 0,.int .u32 0] 36 (0,0))) hF hn hi false (by rw[Bool.and_eq_false_iff];by_cases hlt:i<F.n;exact .inr (by simp;exact fun e=>hno ⟨hlt,e⟩);exact .inl (by simpa using hlt)))
 have HK0:=hid hk
 have HB:=hid hB
 clear h hk hF hB hi hno
 go_enter Tryz.func183,Tryz.ntmps183
 go_wp2_with (first|(go_at_call 190;refine HT.out.mono ?_;rintro e w2 ⟨rfl,rfl⟩)|(go_at_call 191;refine HA.out.mono ?_;rintro e wa ⟨rfl,hb⟩;have hK:=blk0 HK0.out hb;have q0:=cell_of hK 0;have q1:=cell_of hK 1;have qf:=z0e hK;have HB1:=hid (z0d HB.out hb HB.out.size);clear hb hK))
 refine bodyPost_ret (v:=.tuple #[.agg #[_,_],_]) (by simp[results,Tryz.results183,go_sem,q0,q1]) rfl ⟨rfl,?_⟩
 exact (HB1.out.setCell (Nat.le_refl _) _).setCell (Nat.le_refl _) _
end Go.Proofs.YtgdmfledhhoedaaGreatDoor.F
namespace Go.Burg
open Go Go.RowKit
def z2j (F:Fw) (k:Nat):Value :=
 if k<16 then .int .u8 (F.b k) else if k<48 then (if k % 2=0 then .int .i64 (F.s ((k - 16) / 2)) else .int .u32 (F.g ((k - 16) / 2))) else if k=48 then .int .i64 F.n else .int .i64 F.room
theorem z1y (F:Fw):(FwRow F).length=50:=rfl
theorem fwRow_get (F:Fw) {k:Nat} (hk:k<50):(FwRow F)[k]?=some (z2j F k):=by
 unfold FwRow z2j
 by_cases h1:k<16
 ·rw[if_pos h1,List.append_assoc,List.getElem?_append_left (by rw[fwB_len];exact h1)]
  simp[fwB,h1]
 ·rw[if_neg h1,List.append_assoc,List.getElem?_append_right (by rw[fwB_len];omega),fwB_len]
  by_cases h2:k<48
  ·rw[if_pos h2,List.getElem?_append_left (by rw[fwR_len];omega)]
   obtain⟨e1,e2⟩:=fwR_at F (i:=(k - 16) / 2) (by omega)
   by_cases h3:k % 2=0
   ·rw[if_pos h3,<- e1];congr 1;omega
   ·rw[if_neg h3,<- e2];congr 1;omega
  ·rw[if_neg h2,List.getElem?_append_right (by rw[fwR_len];omega),fwR_len]
   rcases (by omega:k=48\/k=49) with rfl|rfl<;>rfl
variable {l:List Value}
theorem row_ext {F:Fw} (hl:l.length=50) (h:∀ k,k<50->l[k]?=some (z2j F k)):l=FwRow F:=by
 refine List.ext_getElem? fun k=>?_
 by_cases hk:k<50
 ·rw[h k hk,fwRow_get F hk]
 ·rw[List.getElem?_eq_none (by omega),List.getElem?_eq_none (by rw[z1y];omega)]
theorem splice_get {cs:List Value} {o k:Nat} (hf:o+cs.length<=l.length):(l.take o++cs++l.drop (o+cs.length))[k]?=if o<=k/\k<o+cs.length then cs[k - o]? else l[k]?:=by
 have ht:(l.take o).length=o:=by simp;omega
 by_cases h1:k<o
 ·rw[if_neg (by omega),List.append_assoc,List.getElem?_append_left (by omega),List.getElem?_take,if_pos h1]
 ·by_cases h2:k<o+cs.length
  ·rw[if_pos ⟨by omega,h2⟩,List.append_assoc,List.getElem?_append_right (by omega),ht,List.getElem?_append_left (by omega)]
  ·rw[if_neg (by omega),List.getElem?_append_right (by rw[List.length_append];omega),List.getElem?_drop,List.length_append,ht]
   congr 1
   omega
def Fw.upB (F:Fw) (n:Nat):Fw:={ F with b:=fun j=>if n<j/\j<=F.n then F.b (j - 1) else F.b j }
def Fw.upR (F:Fw) (n:Nat):Fw:={ F with s:=fun j=>if n<j/\j<=F.n then F.s (j - 1) else F.s j,g:=fun j=>if n<j/\j<=F.n then F.g (j - 1) else F.g j }
theorem upB_row (F:Fw) {n:Nat} (hn:n<=F.n) (h15:F.n<=15) :
 (FwRow F).take (n+1)++(List.range (F.n - n)).map (fun j=>Value.int .u8 (F.b (n+j)))++(FwRow F).drop (n+1+((List.range (F.n - n)).map (fun j=>Value.int .u8 (F.b (n+j)))).length)=FwRow (F.upB n):=by
 have hlen:((List.range (F.n - n)).map (fun j=>Value.int .u8 (F.b (n+j)))).length=F.n - n:=by simp
 refine row_ext ?_ fun k hk=>?_
 ·simp only[List.length_append,List.length_take,List.length_drop,hlen,z1y];omega
 ·rw[splice_get (by rw[hlen,z1y];omega),hlen]
  by_cases h1:n+1<=k/\k<n+1+(F.n - n)
  ·rw[if_pos h1]
   have h2:k - (n+1)<F.n - n:=by omega
   have h3:k<16:=by omega
   have h4:n<k/\k<=F.n:=by omega
   simp only[List.getElem?_map,List.getElem?_range h2,Option.map_some,z2j,if_pos h3,Fw.upB,if_pos h4]
   congr 3
   omega
  ·rw[if_neg h1,fwRow_get F hk]
   unfold z2j Fw.upB
   by_cases h3:k<16
   ·simp only[if_pos h3]
    rw[if_neg (by omega)]
   ·simp only[if_neg h3]
theorem pairs_len (f g:Nat->Value) (m:Nat):((List.range m).flatMap fun i=>[f i,g i]).length=m * 2:=by
 induction m with
 | zero=>rfl
 | succ m ih=>rw[List.range_succ,List.flatMap_append,List.length_append,ih];simp;omega
theorem pairs_get (f g:Nat->Value) (m:Nat) {k:Nat} (hk:k<m * 2):((List.range m).flatMap fun i=>[f i,g i])[k]?=some (if k % 2=0 then f (k / 2) else g (k / 2)):=by
 induction m with
 | zero=>omega
 | succ m ih =>
  rw[List.range_succ,List.flatMap_append]
  by_cases h:k<m * 2
  ·rw[List.getElem?_append_left (by rw[pairs_len];exact h),ih h]
  ·rw[List.getElem?_append_right (by rw[pairs_len];omega),pairs_len]
   rcases (by omega:k=m * 2\/k=m * 2+1) with rfl|rfl
   ·have e1:m * 2 - m * 2=0:=by omega
    have e2:m * 2 / 2=m:=by omega
    rw[if_pos (by omega),e1,e2]
    simp
   ·have e1:m * 2+1 - m * 2=1:=by omega
    have e2:(m * 2+1) / 2=m:=by omega
    rw[if_neg (by omega),e1,e2]
    simp
theorem upR_row (F:Fw) {n:Nat} (hn:n<=F.n) (h15:F.n<=15) :
 (FwRow F).take (16+(n+1) * 2)++((List.range (F.n - n)).flatMap fun j=>[Value.int .i64 (F.s (n+j)),Value.int .u32 (F.g (n+j))])++(FwRow F).drop (16+(n+1) * 2+((List.range (F.n - n)).flatMap fun j=>[Value.int .i64 (F.s (n+j)),Value.int .u32 (F.g (n+j))]).length)=FwRow (F.upR n):=by
 have hlen:=pairs_len (fun j=>Value.int .i64 (F.s (n+j))) (fun j=>Value.int .u32 (F.g (n+j))) (F.n - n)
 refine row_ext ?_ fun k hk=>?_
 ·simp only[List.length_append,List.length_take,List.length_drop,hlen,z1y];omega
 ·rw[splice_get (by rw[hlen,z1y];omega),hlen]
  by_cases h1:16+(n+1) * 2<=k/\k<16+(n+1) * 2+(F.n - n) * 2
  ·rw[if_pos h1,pairs_get _ _ _ (by omega)]
   have h3:¬ k<16:=by omega
   have h4:k<48:=by omega
   have h5:n<(k - 16) / 2/\(k - 16) / 2<=F.n:=by omega
   have h6:n+(k - (16+(n+1) * 2)) / 2=(k - 16) / 2 - 1:=by omega
   have h7:(k - (16+(n+1) * 2)) % 2=k % 2:=by omega
   unfold z2j Fw.upR
   simp only[if_neg h3,if_pos h4,if_pos h5,h6,h7]
  ·rw[if_neg h1,fwRow_get F hk]
   unfold z2j Fw.upR
   by_cases h3:k<16
   ·simp only[if_pos h3]
   ·by_cases h4:k<48
    ·have h5:¬ (n<(k - 16) / 2/\(k - 16) / 2<=F.n):=by omega
     simp only[if_neg h3,if_pos h4,if_neg h5]
    ·simp only[if_neg h3,if_neg h4]
end Go.Burg
