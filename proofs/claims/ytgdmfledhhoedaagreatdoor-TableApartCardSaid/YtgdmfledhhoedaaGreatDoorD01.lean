/- Part 1 of 27. -/
import Derived.Orders
import Derived.Tactics
namespace Go.Burg
open Go
theorem makeF (P:Program) (fn:Fn) (first cap:Array Value) (w:World):(Instr.makeFunc fn first cap).run P w=.ok (.func fn first cap) w:=rfl
def Does (P:Program) (o:Oper) (ρ:Operand->Value) (w:World) (G:Value->World->Prop):Prop :=
 match (execOp ρ o).run P w with
 | .ok (.value v) w'=>G v w'
 | .ok .skip w'=>G undef w'
 | .ok (.enter f args) w'=>Calls P f args w' fun e w''=>∃ v,e=.returned v/\G v w''
 | .ok (.row row args) w'=>Rows P row args w' G
 | _=>False
def DoesG (P:Program) (ops:Array Oper) (o:Oper) (a:Act) (w:World) (G:Value->World->Prop):Prop :=
 if Region.wanted o (yielded ops a.tmps)=true then Does P o a.eval w G else G undef w
theorem Does.upon {P:Program} {o:Oper} {a:Act} {w:World} {G:Value->World->Prop} {K:Act->World->Prop} {Q:Exit->Act->World->Prop}
 (h:Does P o a.eval w G) (hk:∀ v w',G v w'->K (a.put o.dst v) w'):o.wp P a w K Q:=by
 unfold Does at h
 unfold Oper.wp
 generalize (execOp a.eval o).run P w=r at *
 cases r with
 | ok n w' =>
  cases n<;>simp only[Oper.upon] at h ⊢<;>first|exact hk _ _ h|skip
  case enter f args =>
   refine Calls.mono h fun e w'' he=>?_
   obtain⟨v,rfl,hv⟩:=he
   exact hk _ _ hv
  case row row args=>exact Rows.mono h fun v w'' hv=>hk _ _ hv
  all_goals exact h.elim
 | halt x w'=>exact h.elim
def dsts:Nat->List Oper->List (Nat × Tmp)
 | _,[]=>[]
 | k,o :: l=>match o.dst with
  | some d=>(k,d) :: dsts (k+1) l
  | none=>dsts (k+1) l
def fill (a:Act):List (Nat × Tmp)->(Nat->Value)->Act
 | [],_=>a
 | (j,d) :: l,xs=>fill (a.put (some d) (xs j)) l xs
def z1q (D:Nat->Bool) (a:Act):List (Nat × Tmp)->(Nat->Value)->Act
 | [],_=>a
 | (j,d) :: l,xs=>z1q D (if D j then a.put (some d) (xs j) else a) l xs
def waits (o:Oper):List Nat:=(o.after.toList.filter fun e=>Region.binds .any e).map (·.on)
def looksOk (ops:Array Oper) (ds:List (Nat × Tmp)) (i:Nat) (o:Oper):Bool :=
 (o.looksAt ops).all (fun t=>ds.all fun (j,d)=>d != t || (waits o).contains j) && (waits o).all (·<i) &&
 (match o.op with | .select ..=>false|_=>true)
def goodOps (ops:Array Oper) (ds:List (Nat × Tmp)):Nat->List Oper->Bool
 | _,[]=>true
 | k,o :: l=>looksOk ops ds k o && goodOps ops ds (k+1) l
def distinct:List (Nat × Tmp)->Bool
 | []=>true
 | (j,d) :: l=>l.all (fun (j',d')=>d' != d && j' != j) && distinct l
def tailOk (l:List Oper) (i:Nat):Bool:=(List.range i).all fun j=>(List.range (i+1)).any fun k=>decide (j<k) && (((l[k]?).map waits).getD []).contains j
def good (m:Nat) (l:List Oper):Bool :=
 distinct (dsts 0 (l.take m)) && goodOps l.toArray (dsts 0 (l.take m)) 0 (l.take m) && decide (m<=l.length) &&
 (List.range l.length).all (fun i=>(((l[i]?).map waits).getD []).all (·<i) && (decide (i<m) || tailOk l i))
theorem goodOps_spec {ops:Array Oper} {ds:List (Nat × Tmp)}:∀ (l:List Oper) (k:Nat),goodOps ops ds k l=true->∀ i o,l[i]?=some o->looksOk ops ds (k+i) o=true:=by
 intro l
 induction l with
 | nil=>intro k _ i o h;simp at h
 | cons x l ih =>
  intro k h i o hi
  simp only[goodOps,Bool.and_eq_true] at h
  cases i with
  | zero=>simp at hi;subst hi;exact h.1
  | succ i=>have:=ih (k+1) h.2 i o (by simpa using hi);rw[show k+(i+1)=k+1+i from by omega];exact this
theorem z2o:∀ (l:List Oper) (k j:Nat) (d:Tmp),(j,d)∈dsts k l ↔ ∃ i o,l[i]?=some o/\j=k+i/\o.dst=some d:=by
 intro l
 induction l with
 | nil=>intro k j d;simp[dsts]
 | cons x l ih =>
  intro k j d
  have key:(∃ i o,(x :: l)[i]?=some o/\j=k+i/\o.dst=some d) ↔ (j=k/\x.dst=some d)\/∃ i o,l[i]?=some o/\j=k+1+i/\o.dst=some d:=by
   constructor
   ·rintro ⟨i,o,hi,hj,hd⟩
    cases i with
    | zero=>simp at hi;subst hi;exact .inl ⟨by omega,hd⟩
    | succ i=>exact .inr ⟨i,o,by simpa using hi,by omega,hd⟩
   ·rintro (⟨hj,hd⟩|⟨i,o,hi,hj,hd⟩)
    ·exact⟨0,x,by simp,by omega,hd⟩
    ·exact⟨i+1,o,by simpa using hi,by omega,hd⟩
  rw[key,<- ih]
  simp only[dsts]
  cases hx:x.dst with
  | none=>simp
  | some d'=>simp[eq_comm]
theorem fillIf_put (D:Nat->Bool) (xs:Nat->Value):∀ (ds:List (Nat × Tmp)) (a:Act) (d:Tmp) (v:Value),(∀ p∈ds,p.2≠d)->z1q D (a.put (some d) v) ds xs=(z1q D a ds xs).put (some d) v:=by
 intro ds
 induction ds with
 | nil=>intro a d v _;rfl
 | cons p ds ih =>
  intro a d v h
  obtain⟨j,e⟩:=p
  simp only[z1q]
  have he:e≠d:=h (j,e) (by simp)
  by_cases hD:D j=true
  ·simp only[hD,if_true]
   rw[Act.put_comm a v (xs j) (fun d' hd'=>by cases hd';exact fun hh=>he (by cases hh;rfl))]
   exact ih _ _ _ (fun p hp=>h p (by simp[hp]))
  ·simp only[hD,if_false,Bool.false_eq_true]
   exact ih _ _ _ (fun p hp=>h p (by simp[hp]))
theorem fillIf_congr {D D':Nat->Bool} {xs xs':Nat->Value}:∀ (ds:List (Nat × Tmp)) (a:Act),(∀ p∈ds,D p.1=D' p.1/\(D p.1=true->xs p.1=xs' p.1))->z1q D a ds xs=z1q D' a ds xs':=by
 intro ds
 induction ds with
 | nil=>intro a _;rfl
 | cons p ds ih =>
  intro a h
  obtain⟨j,e⟩:=p
  have h1:=h (j,e) (by simp)
  simp only[z1q]
  rw[<- h1.1]
  by_cases hD:D j=true
  ·simp only[hD,if_true]
   rw[h1.2 hD]
   exact ih _ (fun p hp=>h p (by simp[hp]))
  ·simp only[hD,if_false,Bool.false_eq_true]
   exact ih _ (fun p hp=>h p (by simp[hp]))
theorem fillIf_all {D:Nat->Bool} {xs:Nat->Value}:∀ (ds:List (Nat × Tmp)) (a:Act),(∀ p∈ds,D p.1=true)->z1q D a ds xs=fill a ds xs:=by
 intro ds
 induction ds with
 | nil=>intro a _;rfl
 | cons p ds ih =>
  intro a h
  obtain⟨j,e⟩:=p
  simp only[z1q,fill]
  rw[h (j,e) (by simp)]
  simp only[if_true]
  exact ih _ (fun p hp=>h p (by simp[hp]))
theorem distinct_spec {ds:List (Nat × Tmp)} (h:distinct ds=true):ds.Pairwise (fun p q=>q.2≠p.2/\q.1≠p.1):=by
 induction ds with
 | nil=>exact .nil
 | cons p ds ih =>
  obtain⟨j,d⟩:=p
  simp only[distinct,Bool.and_eq_true,List.all_eq_true] at h
  refine .cons (fun q hq=>?_) (ih h.2)
  have:=h.1 q hq
  simpa using this
theorem fillIf_set {D:Nat->Bool} {xs:Nat->Value} (i:Nat) (v:Value):∀ (ds:List (Nat × Tmp)) (a:Act) (d:Tmp),ds.Pairwise (fun p q=>q.2≠p.2/\q.1≠p.1)->(i,d)∈ds->D i=false ->
 z1q (fun j=>D j || j == i) a ds (fun j=>if j=i then v else xs j)=(z1q D a ds xs).put (some d) v:=by
 intro ds
 induction ds with
 | nil=>intro a d _ h;simp at h
 | cons p ds ih =>
  intro a d hp hmem hD
  obtain⟨j,e⟩:=p
  cases hp with
  | cons hhd htl =>
  by_cases hji:j=i
  ·subst hji
   have hde:d=e:=by
    rcases List.mem_cons.1 hmem with h|h
    ·cases h;rfl
    ·exact absurd rfl (hhd _ h).2
   subst hde
   simp only[z1q,hD,Bool.false_or,beq_self_eq_true,if_true,Bool.false_eq_true,if_false]
   rw[<- fillIf_put D xs ds a d v (fun q hq=>(hhd q hq).1)]
   refine fillIf_congr ds _ fun q hq=>?_
   have hne:q.1≠j:=(hhd q hq).2
   simp[hne]
  ·have hmem':(i,d)∈ds:=by
    rcases List.mem_cons.1 hmem with h|h
    ·cases h;exact absurd rfl hji
    ·exact h
   simp only[z1q,hji,beq_eq_false_iff_ne.2 hji,Bool.or_false,if_false]
   exact ih _ d htl hmem' hD
theorem eval_fillIf {D:Nat->Bool} {xs:Nat->Value} (t:Operand):∀ (ds:List (Nat × Tmp)) (a:Act),(∀ p∈ds,t=.tmp p.2->D p.1=true)->(z1q D a ds xs).eval t=(fill a ds xs).eval t:=by
 intro ds a h
 have:∀ (ds:List (Nat × Tmp)) (a b:Act),a.eval t=b.eval t->a.tmps.size=b.tmps.size->(∀ p∈ds,t=.tmp p.2->D p.1=true)->(z1q D a ds xs).eval t=(fill b ds xs).eval t:=by
  intro ds
  induction ds with
  | nil=>intro a b h _ _;exact h
  | cons p ds ih =>
   intro a b hab hsz h
   obtain⟨j,e⟩:=p
   simp only[z1q,fill]
   refine ih _ _ ?_ ?_ (fun p hp=>h p (by simp[hp]))
   ·by_cases hte:t=.tmp e
    ·rw[h (j,e) (by simp) hte]
     subst hte
     simp only[if_true,Act.eval,Act.put]
     by_cases hlt:e<a.tmps.size
     ·have hlt':e<b.tmps.size:=hsz ▸ hlt
      simp[hlt,hlt']
     ·have hlt':¬ e<b.tmps.size:=hsz ▸ hlt
      simp[hlt,hlt']
    ·rw[Act.eval_put (fun d hd he=>by cases hd;exact hte he)]
     split
     ·rw[Act.eval_put (fun d hd he=>by cases hd;exact hte he)];exact hab
     ·exact hab
   ·split<;>simp[Act.put,hsz]
 exact this ds a a rfl rfl h
variable {a a':Act}
theorem yielded_eval {ops:Array Oper} {b:Act} {g:Nat} (h:∀ d,(ops[g]?).bind (·.dst)=some d->a.eval (.tmp d)=b.eval (.tmp d)):yielded ops a.tmps g=yielded ops b.tmps g:=by
 unfold yielded
 cases hd:(ops[g]?).bind (·.dst) with
 | none=>rfl
 | some d =>
  have:=h d hd
  simp only[Act.eval] at this
  have e3:a.tmps[d]?.getD undef=b.tmps[d]?.getD undef:=by simpa using this
  cases hx:a.tmps[d]?<;>cases hy:b.tmps[d]?<;>simp only[hx,hy,Option.getD_none,Option.getD_some] at e3
  ·simp[hx,hy]
  ·simp[hx,hy,<- e3,undef]
  ·simp[hx,hy,e3,undef]
  ·simp[hx,hy,e3]
theorem waits_mem {o:Oper} {j:Nat}:j∈waits o ↔ ∃ e∈o.after,Region.binds .any e=true/\e.on=j:=by
 simp only[waits,List.mem_map,List.mem_filter,Array.mem_toList_iff]
 constructor
 ·rintro ⟨e,⟨h1,h2⟩,h3⟩;exact⟨e,h1,h2,h3⟩
 ·rintro ⟨e,h1,h2,h3⟩;exact⟨e,⟨h1,h2⟩,h3⟩
def left (listed:Array Bool):Nat:=listed.toList.countP (fun b=>!b)
variable {c d i id k:Nat}
theorem left_set {listed:Array Bool} (h:listed.getD i true=false):left (listed.setIfInBounds i true)+1=left listed:=by
 have hlt:i<listed.size:=by
  rcases Nat.lt_or_ge i listed.size with h' | h'
  ·exact h'
  ·simp[Array.getElem?_eq_none h'] at h
 obtain⟨l⟩:=listed
 simp only[left,List.setIfInBounds_toArray] at *
 have hi:l[i]?=some false:=by
  simp at hlt
  simp[hlt] at h ⊢
  exact h
 clear hlt h
 induction l generalizing i with
 | nil=>simp at hi
 | cons x l ih =>
  cases i with
  | zero=>simp at hi;subst hi;simp
  | succ i =>
   have:=ih (i:=i) (by simpa using hi)
   cases x<;>simp at *<;>omega
theorem left_zero {listed:Array Bool} (h:left listed=0) (i:Nat) (hi:i<listed.size):listed.getD i false=true:=by
 obtain⟨l⟩:=listed
 simp only[left,List.countP_eq_zero] at h
 simp at hi
 have:=h l[i] (List.getElem_mem _)
 simpa[hi] using this
theorem exists_unlisted {listed:Array Bool} (h:left listed≠0):∃ i,listed.getD i true=false:=by
 obtain⟨l⟩:=listed
 simp only[left] at h
 have h1:0<l.countP (fun b=>!b):=by omega
 obtain⟨b,hb,hb'⟩:=List.countP_pos_iff.1 h1
 obtain⟨i,hi,rfl⟩:=List.getElem_of_mem hb
 exact⟨i,by simpa[hi] using hb'⟩
theorem least_unlisted {listed:Array Bool} (h:left listed≠0):∃ i,listed.getD i true=false/\∀ j<i,listed.getD j true=true:=by
 obtain⟨i,hi⟩:=exists_unlisted h
 induction i using Nat.strongRecOn with
 | _ i ih =>
  by_cases hall:∀ j<i,listed.getD j true=true
  ·exact⟨i,hi,hall⟩
  ·have:∃ j,j<i/\listed.getD j true=false:=by
    apply Classical.byContradiction
    intro hn
    exact hall fun j hj=>by
     cases hb:listed.getD j true with
     | true=>rfl
     | false=>exact absurd ⟨j,hj,hb⟩ hn
   obtain⟨j,hj,hb⟩:=this
   exact ih j hj hb
variable {w w0:World}
section
variable {P:Program} {l:List Oper} {Q:Exit->Act->World->Prop} {a0:Act}
theorem tailOk_spec {l:List Oper} (h:tailOk l i=true) (D:Nat->Bool) (hcl:∀ k o,l[k]?=some o->(D k=true\/k=i)->∀ j∈waits o,D j=true):∀ j,j<i->D j=true:=by
 have main:∀ n j,i - j<=n->j<i->D j=true:=by
  intro n
  induction n with
  | zero=>intro j h1 h2;omega
  | succ n ih =>
   intro j h1 h2
   simp only[tailOk,List.all_eq_true,List.mem_range] at h
   have h3:=h j h2
   simp only[List.any_eq_true,List.mem_range,Bool.and_eq_true,decide_eq_true_eq] at h3
   obtain⟨k,hk,hjk,hc⟩:=h3
   cases ho:l[k]? with
   | none=>rw[ho] at hc;simp at hc
   | some o =>
    rw[ho] at hc
    have hm:j∈waits o:=by simpa using hc
    refine hcl k o ho ?_ j hm
    by_cases hki:k=i
    ·exact .inr hki
    ·exact .inl (ih k (by omega) (by omega))
 exact fun j hj=>main (i - j) j (Nat.le_refl _) hj
theorem z2z {xs xs':Nat->Value} (t:Operand):∀ (ds:List (Nat × Tmp)) (a:Act),(∀ p∈ds,t=.tmp p.2->xs p.1=xs' p.1)->(fill a ds xs).eval t=(fill a ds xs').eval t:=by
 have:∀ (ds:List (Nat × Tmp)) (a b:Act),a.eval t=b.eval t->a.tmps.size=b.tmps.size->(∀ p∈ds,t=.tmp p.2->xs p.1=xs' p.1)->(fill a ds xs).eval t=(fill b ds xs').eval t:=by
  intro ds
  induction ds with
  | nil=>intro a b h _ _;exact h
  | cons p ds ih =>
   intro a b hab hsz h
   obtain⟨j,e⟩:=p
   simp only[fill]
   refine ih _ _ ?_ (by simp[Act.put,hsz]) (fun p hp=>h p (by simp[hp]))
   by_cases hte:t=.tmp e
   ·have hx:xs j=xs' j:=h (j,e) (by simp) hte
    subst hte
    by_cases hlt:e<a.tmps.size
    ·have hlt':e<b.tmps.size:=hsz ▸ hlt
     simp[Act.eval,Act.put,hlt,hlt',hx]
    ·have hlt':¬ e<b.tmps.size:=hsz ▸ hlt
     simp[Act.eval,Act.put,hlt,hlt']
   ·rw[Act.eval_put (fun d hd he=>by cases hd;exact hte he),Act.eval_put (fun d hd he=>by cases hd;exact hte he)]
    exact hab
 exact fun ds a h=>this ds a a rfl rfl h
theorem fill_congr {xs xs':Nat->Value}:∀ (ds:List (Nat × Tmp)) (a:Act),(∀ p∈ds,xs p.1=xs' p.1)->fill a ds xs=fill a ds xs':=by
 intro ds
 induction ds with
 | nil=>intro a _;rfl
 | cons p ds ih =>
  intro a h
  obtain⟨j,e⟩:=p
  simp only[fill]
  rw[h (j,e) (by simp)]
  exact ih _ (fun p hp=>h p (by simp[hp]))
theorem fill_size (xs:Nat->Value):∀ (ds:List (Nat × Tmp)) (a:Act),(fill a ds xs).tmps.size=a.tmps.size:=by
 intro ds
 induction ds with
 | nil=>intro a;rfl
 | cons p ds ih=>intro a;obtain⟨j,e⟩:=p;simp only[fill];rw[ih];simp[Act.put]
theorem DoesG_congr {ops:Array Oper} {ds:List (Nat × Tmp)} {o:Oper} {xs xs':Nat->Value} {G:Value->World->Prop} (hok:looksOk ops ds i o=true)
 (h:∀ j∈waits o,xs j=xs' j) (hd:DoesG P ops o (fill a ds xs) w G):DoesG P ops o (fill a ds xs') w G:=by
 simp only[looksOk,Bool.and_eq_true,List.all_eq_true] at hok
 have hlooks:∀ t∈o.looksAt ops,∀ p∈ds,t=p.2->xs p.1=xs' p.1:=fun t ht p hp hte=>by
  have h1:=hok.1.1 t ht p hp
  subst hte
  exact h _ (by simpa using h1)
 have hev:∀ x∈o.op.operands,(fill a ds xs).eval x=(fill a ds xs').eval x:=fun x hx=>z2z x _ _ fun p hp hxe=>hlooks p.2 (by
  subst hxe
  exact List.mem_append_left _ (List.mem_filterMap.2 ⟨.tmp p.2,by simpa using hx,rfl⟩)) p hp rfl
 have hsel:∀ cs b,o.op≠.select cs b:=fun cs b he=>by
  have:=hok.2
  rw[he] at this
  cases this
 have hexec:=execOp_congr o hsel hev
 have hwant:Region.wanted o (yielded ops (fill a ds xs).tmps)=Region.wanted o (yielded ops (fill a ds xs').tmps):=by
  unfold Region.wanted
  cases hgd:o.guard with
  | none=>rfl
  | some gw =>
   obtain⟨g,want⟩:=gw
   simp only[]
   rw[yielded_eval (fun d hd=>z2z (.tmp d) _ _ fun p hp hpe=>hlooks p.2 (by
    refine List.mem_append_right _ ?_
    simp only[hgd]
    have hpd:d=p.2:=by cases hpe;rfl
    rw[hd,hpd]
    simp) p hp rfl)]
 unfold DoesG Does at *
 rw[<- hwant,<- hexec]
 exact hd
def z2m (G:Act->World->Prop):Exit->Act->World->Prop
 | .normal,a,w=>G a w
 | _,_,_=>False
theorem z3b {o:Oper} {ops:Array Oper} {G:Value->World->Prop}
 (h:wpList P ops (z2m fun a' w'=>a'.defers=a.defers/\∀ v,a'=a.put o.dst v->G v w') [o] a w):DoesG P ops o a w G:=by
 have hdef:∀ (b:Act) (d:Option Tmp) (v:Value),(b.put d v).defers=b.defers:=fun b d v=>by cases d<;>rfl
 unfold wpList at h
 unfold DoesG
 split
 ·rename_i hw
  rw[if_pos hw] at h
  rcases h with h|⟨_,a',w',hl⟩
  ·unfold Oper.wp at h
   unfold Does
   generalize (execOp a.eval o).run P w=r at *
   cases r with
   | ok n w' =>
    cases n<;>simp only[Oper.upon] at h ⊢
    case value v=>exact h.2 v rfl
    case skip=>exact h.2 undef rfl
    case defer d =>
     have h1:=h.1
     rw[hdef] at h1
     have h2:=congrArg List.length h1
     simp at h2
    case enter f args =>
     refine Calls.mono h fun e w'' he=>?_
     cases e with
     | returned v=>exact⟨v,rfl,he.2 v rfl⟩
     | panicked c=>exact he.elim
     | outgrown=>obtain⟨_,_,he⟩:=he;exact he.elim
    case row row args=>exact Rows.mono h fun v w'' hv=>hv.2 v rfl
   | halt x w'=>cases x<;>simp only[Oper.upon] at h<;>exact h.elim
  ·exact hl.elim
 ·rename_i hw
  rw[if_neg hw] at h
  exact h.2 undef rfl
def AllOps (F:Oper->Prop):List Oper->Prop
 | []=>True
 | [o]=>F o
 | o :: l=>F o/\AllOps F l
theorem AllOps_spec {F:Oper->Prop}:∀ {l:List Oper},AllOps F l->∀ o∈l,F o
 | [],_,o,h=>by cases h
 | [x],hF,o,h=>by
  rcases List.mem_cons.1 h with rfl|h
  ·exact hF
  ·cases h
 | x :: y :: l,hF,o,h=>by
  rcases List.mem_cons.1 h with rfl|h
  ·exact hF.1
  ·exact AllOps_spec hF.2 o h
def dstOf (l:List Oper) (j:Nat):Nat:=((l[j]?).bind (fun o=>o.dst)).getD 0
def z1c (F:Nat->Oper->Prop):Nat->List Oper->Prop
 | _,[]=>True
 | k,[o]=>F k o
 | k,o :: l=>F k o/\z1c F (k+1) l
theorem AllOpsI_spec {F:Nat->Oper->Prop}:∀ (l:List Oper) (k:Nat),z1c F k l->∀ i o,l[i]?=some o->F (k+i) o
 | [],_,_,i,o,h=>by simp at h
 | [x],k,hF,i,o,h=>by
  cases i with
  | zero=>simp at h;subst h;exact hF
  | succ i=>simp at h
 | x :: y :: l,k,hF,i,o,h=>by
  cases i with
  | zero=>simp at h;subst h;exact hF.1
  | succ i =>
   have:=AllOpsI_spec (y :: l) (k+1) hF.2 i o (by simpa using h)
   rw[show k+(i+1)=k+1+i from by omega]
   exact this
theorem AllOpsI_of {F:Nat->Oper->Prop}:∀ (l:List Oper) (k:Nat),(∀ k o,o∈l->F k o)->z1c F k l
 | [],_,_=>trivial
 | [x],k,h=>h k x (by simp)
 | x :: y :: l,k,h=>⟨h k x (by simp),AllOpsI_of (y :: l) (k+1) fun k o ho=>h k o (by simp[ho])⟩
theorem z0u {ops:Array Oper} {o:Oper} (K K':Act->World->Prop) (hKK:∀ a w,K a w->K' a w) (h:wpList P ops (z2m K) [o] a w):wpList P ops (z2m K') [o] a w:=by
 unfold wpList at *
 split
 ·rename_i hw
  rw[if_pos hw] at h
  rcases h with h|⟨_,_,_,hl⟩
  ·refine .inl ?_
   unfold Oper.wp at *
   generalize (execOp a.eval o).run P w=r at *
   cases r with
   | ok n w' =>
    cases n<;>simp only[Oper.upon] at h ⊢
    case value v=>exact hKK _ _ h
    case skip=>exact hKK _ _ h
    case defer d=>exact hKK _ _ h
    case enter f args =>
     refine Calls.mono h fun e w'' he=>?_
     cases e with
     | returned v=>exact hKK _ _ he
     | panicked c=>exact he.elim
     | outgrown=>obtain⟨_,_,he⟩:=he;exact he.elim
    case row row args=>exact Rows.mono h fun v w'' hv=>hKK _ _ hv
   | halt x w'=>cases x<;>simp only[Oper.upon] at h<;>exact h.elim
  ·exact hl.elim
 ·rename_i hw
  rw[if_neg hw] at h
  exact hKK _ _ h
theorem DoesG.mono {ops:Array Oper} {o:Oper} {a:Act} {w:World} {G G':Value->World->Prop} (h:DoesG P ops o a w G) (k:∀ v w',G v w'->G' v w'):DoesG P ops o a w G':=by
 unfold DoesG at *
 split
 ·rename_i hw
  rw[if_pos hw] at h
  unfold Does at *
  generalize (execOp a.eval o).run P w=r at *
  cases r with
  | ok n w' =>
   cases n<;>first|exact k _ _ h|skip
   case enter f args=>exact h.mono fun e w'' he=>by obtain⟨v,e1,hv⟩:=he;exact⟨v,e1,k _ _ hv⟩
   case row row args=>exact Rows.mono h k
   all_goals exact h
  | halt x w'=>exact h
 ·rename_i hw
  rw[if_neg hw] at h
  exact k _ _ h
end
section
variable {P:Program} {l:List Oper} {Q:Exit->Act->World->Prop} {a0:Act}
theorem joint_gen {WL:List Oper->Act->World->Prop} {WA:Nat->Array Bool->Act->World->Prop} (m:Nat) (hg:good m l=true)
 (hz:∀ listed a w,Region.ready .any l.toArray listed=[]->WL [] a w->WA 0 listed a w)
 (hn:∀ fuel listed a w,Region.ready .any l.toArray listed≠[]->(∀ i∈Region.ready .any l.toArray listed,∃ o,l[i]?=some o /\
  ((∃ r,WL (o :: r) a w/\∀ a w,WL r a w->WA fuel (listed.setIfInBounds i true) a w)\/∃ G,DoesG P l.toArray o a w G/\∀ v w',G v w'->WA fuel (listed.setIfInBounds i true) (a.put o.dst v) w'))->WA (fuel+1) listed a w)
 (J:(Nat->Bool)->(Nat->Value)->World->Prop) (h0:J (fun _=>false) (fun _=>undef) w0.drew)
 (hs:∀ i o,i<m->l[i]?=some o->∀ (D:Nat->Bool) (xs:Nat->Value) (w:World),D i=false->(∀ j∈waits o,D j=true)->J D xs w ->
  DoesG P l.toArray o (fill a0 (dsts 0 (l.take m)) xs) w fun v w'=>J (fun j=>D j || j == i) (fun j=>if j=i then v else xs j) w')
 (hend:∀ (D:Nat->Bool) (xs:Nat->Value) (w:World),(∀ j,j<m->D j=true)->J D xs w->WL (l.drop m) (fill a0 (dsts 0 (l.take m)) xs) w) :
 WA l.length (Array.replicate l.length false) a0 w0.drew:=by
 simp only[good,Bool.and_eq_true,decide_eq_true_eq,List.all_eq_true,List.mem_range] at hg
 obtain⟨⟨⟨hg1,hg2⟩,hml⟩,hg4⟩:=hg
 have hdis:=distinct_spec hg1
 have htk:∀ i,i<m->(l.take m)[i]?=l[i]?:=fun i hi=>by simp[hi]
 have hok:∀ i o,i<m->l[i]?=some o->looksOk l.toArray (dsts 0 (l.take m)) i o=true:=fun i o hi h=>by simpa using goodOps_spec (l.take m) 0 hg2 i o (by rw[htk i hi];exact h)
 have hwlt:∀ i o,l[i]?=some o->∀ j∈waits o,j<i:=fun i o ho j hj=>by
  have hlt:=(List.getElem?_eq_some_iff.1 ho).1
  have:=(hg4 i hlt).1
  rw[ho] at this
  simpa using this j (by simpa using hj)
 have htail:∀ i,i<l.length->m<=i->tailOk l i=true:=fun i hi hmi=>by
  have:=(hg4 i hi).2
  rcases Bool.or_eq_true_iff.1 this with h|h
  ·simp at h;omega
  ·exact h
 have row:∀ (fuel:Nat) (listed:Array Bool) (a:Act) (w:World) (k:Nat),listed.size=l.length->k+fuel=l.length->m<=k->(∀ j,j<k->listed.getD j false=true)->(∀ j,k<=j->listed.getD j false=false) ->
  WL (l.drop k) a w->WA fuel listed a w:=by
  intro fuel
  induction fuel with
  | zero =>
   intro listed a w k hsz hk hmk hlo hhi h
   have hnil:Region.ready .any l.toArray listed=[]:=by
    cases hr:Region.ready .any l.toArray listed with
    | nil=>rfl
    | cons i r =>
     have hi:i∈Region.ready .any l.toArray listed:=by rw[hr];simp
     obtain⟨h1,o,ho,_⟩:=mem_ready.1 hi
     have hlt:i<l.length:=by
      have:=(Array.getElem?_eq_some_iff.1 ho).1
      simpa using this
     have h2:=hlo i (by omega)
     have hlt':i<listed.size:=hsz ▸ hlt
     simp[hlt'] at h1 h2
     rw[h1] at h2;cases h2
   rw[List.drop_eq_nil_of_le (by omega)] at h
   exact hz _ _ _ hnil h
  | succ fuel ih =>
   intro listed a w k hsz hk hmk hlo hhi h
   have hkl:k<l.length:=by omega
   have honly:∀ i∈Region.ready .any l.toArray listed,i=k:=fun i hi=>by
    obtain⟨h1,o,ho,hall⟩:=mem_ready.1 hi
    have hlt:i<l.length:=by
     have:=(Array.getElem?_eq_some_iff.1 ho).1
     simpa using this
    have hlt':i<listed.size:=hsz ▸ hlt
    have hun:listed.getD i false=false:=by simpa[hlt'] using h1
    have hik:k<=i:=by
     rcases Nat.lt_or_ge i k with hh|hh
     ·rw[hlo i hh] at hun;cases hun
     ·exact hh
    have hD:=tailOk_spec (htail i hlt (by omega)) (fun j=>listed.getD j false) (fun k' o' hk' hor j hj=>by
     rcases hor with hor|rfl
     ·have hkk:k'<k:=by
       rcases Nat.lt_or_ge k' k with hh|hh
       ·exact hh
       ·have h7:=hhi k' hh
        have h8:listed.getD k' false=true:=hor
        rw[h7] at h8;cases h8
      have:=hwlt k' o' hk' j hj
      exact hlo j (by omega)
     ·have ho2:l[k']?=some o:=by simpa using ho
      rw[ho2] at hk'
      cases hk'
      obtain⟨e,he,hb,rfl⟩:=waits_mem.1 hj
      exact hall e he hb)
    rcases Nat.lt_or_ge k i with hh|hh
    ·have h5:=hD k hh
     have h6:=hhi k (Nat.le_refl _)
     have h8:listed.getD k false=true:=h5
     rw[h6] at h8;cases h8
    ·omega
   have hkf:listed.getD k true=false:=by
    have h6:=hhi k (Nat.le_refl _)
    have hlt':k<listed.size:=hsz ▸ hkl
    simpa[hlt'] using h6
   have hkr:k∈Region.ready .any l.toArray listed:=mem_ready.2 ⟨hkf,l[k],by simp[hkl],fun e he hb =>
    hlo e.on (hwlt k l[k] (by simp[hkl]) e.on (waits_mem.2 ⟨e,he,hb,rfl⟩))⟩
   refine hn _ _ _ _ (fun hr=>(by rw[hr] at hkr;cases hkr)) fun i hi=>?_
   obtain rfl:=honly i hi
   rw[List.drop_eq_getElem_cons hkl] at h
   exact⟨l[i],by simp[hkl],.inl ⟨_,h,fun a w h'=>ih _ a w (i+1) (by simpa using hsz) (by omega) (by omega) (fun j hj=>by
    have hlt':i<listed.size:=hsz ▸ hkl
    by_cases hji:j=i
    ·subst hji;simp[hlt']
    ·have hij:i≠j:=fun h=>hji h.symm
     simpa[Array.getElem?_setIfInBounds_ne hij] using hlo j (by omega)) (fun j hj=>by
    have hij:i≠j:=by omega
    simpa[Array.getElem?_setIfInBounds_ne hij] using hhi j (by omega)) h'⟩⟩
 have main:∀ (fuel:Nat) (listed:Array Bool) (xs:Nat->Value) (w:World),listed.size=l.length->left listed=fuel ->
  (∀ j,m<=j->listed.getD j false=false)->(∀ k o,l[k]?=some o->listed.getD k false=true->∀ j∈waits o,listed.getD j false=true) ->
  J (fun j=>listed.getD j false) xs w ->
  WA fuel listed (z1q (fun j=>listed.getD j false) a0 (dsts 0 (l.take m)) xs) w:=by
  intro fuel
  induction fuel with
  | zero =>
   intro listed xs w hsz hl hhi hcl hJ
   have hall:∀ j,j<l.length->listed.getD j false=true:=fun j hj=>left_zero hl j (hsz ▸ hj)
   have hmeq:m=l.length:=by
    rcases Nat.lt_or_ge m l.length with h|h
    ·have h1:=hall m h
     rw[hhi m (Nat.le_refl _)] at h1;cases h1
    ·omega
   refine row 0 listed _ w l.length hsz (by omega) (by omega) hall (fun j hj=>hhi j (by omega)) ?_
   rw[fillIf_all _ _ (fun p hp=>by
    obtain⟨i,o,hi,hj,_⟩:=(z2o (l.take m) 0 p.1 p.2).1 hp
    have:=(List.getElem?_eq_some_iff.1 hi).1
    simp only[List.length_take] at this
    exact hall p.1 (by omega))]
   have:=hend _ xs w (fun j hj=>hall j (by omega)) hJ
   rw[hmeq] at this ⊢
   exact this
  | succ fuel ih =>
   intro listed xs w hsz hl hhi hcl hJ
   by_cases hfront:∀ j,j<m->listed.getD j false=true
   ·
    -- all of the first m are done: the row begins
    have hcount:left listed=l.length - m:=by
     obtain⟨lst⟩:=listed
     simp only[left]
     have hsz':lst.length=l.length:=by simpa using hsz
     have e1:lst=List.replicate m true++List.replicate (l.length - m) false:=by
      apply List.ext_getElem
      ·simp;omega
      ·intro i h1 h2
       by_cases him:i<m
       ·have:=hfront i him
        simp[h1] at this
        simp[him,this]
       ·have:=hhi i (by omega)
        simp[h1] at this
        rw[List.getElem_append_right (by simpa using him)]
        simp[this]
     rw[e1]
     simp[List.countP_replicate]
    refine row (fuel+1) listed _ w m hsz (by omega) (Nat.le_refl _) hfront hhi ?_
    rw[fillIf_all _ _ (fun p hp=>by
     obtain⟨i,o,hi,hj,_⟩:=(z2o (l.take m) 0 p.1 p.2).1 hp
     have:=(List.getElem?_eq_some_iff.1 hi).1
     simp only[List.length_take] at this
     exact hfront p.1 (by omega))]
    exact hend _ xs w hfront hJ
   refine hn _ _ _ _ (fun hr=>?_) fun i hi=>?_
   ·exfalso
    obtain⟨i,hi,hmin⟩:=least_unlisted (listed:=listed) (by omega)
    have hlt:i<listed.size:=by
     rcases Nat.lt_or_ge i listed.size with h' | h'
     ·exact h'
     ·simp[Array.getElem?_eq_none h'] at hi
    have hlt2:i<l.length:=hsz ▸ hlt
    have:i∈Region.ready .any l.toArray listed:=mem_ready.2 ⟨hi,l[i],by simp[hlt2],fun e he hb=>by
     have h3:=hwlt i l[i] (by simp[hlt2]) e.on (waits_mem.2 ⟨e,he,hb,rfl⟩)
     have h4:=hmin e.on h3
     have h5:e.on<listed.size:=by omega
     simpa[h5] using h4⟩
    rw[hr] at this
    cases this
   ·obtain⟨hun,o,ho,hall⟩:=mem_ready.1 hi
    have ho':l[i]?=some o:=by simpa using ho
    have hi2:i<listed.size:=by
     rcases Nat.lt_or_ge i listed.size with h' | h'
     ·exact h'
     ·simp[Array.getElem?_eq_none h'] at hun
    have hDi:listed.getD i false=false:=by simpa[hi2] using hun
    have hwait:∀ j∈waits o,listed.getD j false=true:=fun j hj=>by
     obtain⟨e,he,hb,rfl⟩:=waits_mem.1 hj
     exact hall e he hb
    have him:i<m:=by
     rcases Nat.lt_or_ge i m with h|h
     ·exact h
     ·exfalso
      have hD:=tailOk_spec (htail i (hsz ▸ hi2) h) (fun j=>listed.getD j false) (fun k' o' hk' hor j hj=>by
       rcases hor with hor|rfl
       ·exact hcl k' o' hk' hor j hj
       ·rw[ho'] at hk'
        cases hk'
        exact hwait j hj)
      exact hfront fun j hj=>hD j (by omega)
    have hlk:=hok i o him ho'
    simp only[looksOk,Bool.and_eq_true,List.all_eq_true] at hlk
    have hlooks:∀ t∈o.looksAt l.toArray,∀ p∈dsts 0 (l.take m),t=p.2->listed.getD p.1 false=true:=fun t ht p hp hte=>by
     have h1:=hlk.1.1 t ht p hp
     subst hte
     have h2:p.1∈waits o:=by simpa using h1
     exact hwait _ h2
    have hev:∀ x∈o.op.operands,(z1q (fun j=>listed.getD j false) a0 (dsts 0 (l.take m)) xs).eval x=(fill a0 (dsts 0 (l.take m)) xs).eval x:=fun x hx =>
     eval_fillIf x _ _ fun p hp hxe=>hlooks p.2 (by
      subst hxe
      exact List.mem_append_left _ (List.mem_filterMap.2 ⟨.tmp p.2,by simpa using hx,rfl⟩)) p hp rfl
    have hsel:∀ cs b,o.op≠.select cs b:=fun cs b he=>by
     have:=hlk.2
     rw[he] at this
     cases this
    have hexec:=execOp_congr o hsel hev
    have hwant:Region.wanted o (yielded l.toArray (z1q (fun j=>listed.getD j false) a0 (dsts 0 (l.take m)) xs).tmps)=Region.wanted o (yielded l.toArray (fill a0 (dsts 0 (l.take m)) xs).tmps):=by
     unfold Region.wanted
     cases hgd:o.guard with
     | none=>rfl
     | some gw =>
      obtain⟨g,want⟩:=gw
      simp only[]
      rw[yielded_eval (fun d hd=>eval_fillIf (.tmp d) _ _ fun p hp hpe=>hlooks p.2 (by
       refine List.mem_append_right _ ?_
       simp only[hgd]
       have hpd:d=p.2:=by cases hpe;rfl
       rw[hd,hpd]
       simp) p hp rfl)]
    have hstep:=hs i o him ho' (fun j=>listed.getD j false) xs w hDi hwait hJ
    have hput:∀ v w',J (fun j=>listed.getD j false || j == i) (fun j=>if j=i then v else xs j) w' ->
     WA fuel (listed.setIfInBounds i true) ((z1q (fun j=>listed.getD j false) a0 (dsts 0 (l.take m)) xs).put o.dst v) w':=by
     intro v w' hJ'
     have hD':(fun j=>(listed.setIfInBounds i true).getD j false)=(fun j=>listed.getD j false || j == i):=by
      funext j
      by_cases hji:j=i
      ·subst hji;simp[hi2]
      ·have hij:i≠j:=fun h=>hji h.symm
       simp[Array.getElem?_setIfInBounds_ne hij,hji]
     have hfr:(z1q (fun j=>listed.getD j false) a0 (dsts 0 (l.take m)) xs).put o.dst v=z1q (fun j=>(listed.setIfInBounds i true).getD j false) a0 (dsts 0 (l.take m)) (fun j=>if j=i then v else xs j):=by
      rw[hD']
      cases hdst:o.dst with
      | none =>
       simp only[Act.put]
       refine fillIf_congr _ _ fun p hp=>?_
       obtain⟨i',o',hi',hj',hd'⟩:=(z2o (l.take m) 0 p.1 p.2).1 hp
       have hne:p.1≠i:=fun he=>by
        have:i'=i:=by omega
        subst this
        rw[htk i' him,ho'] at hi'
        cases hi'
        rw[hdst] at hd'
        cases hd'
       simp[hne]
      | some d =>
       exact (fillIf_set i v _ a0 d hdis ((z2o (l.take m) 0 i d).2 ⟨i,o,by rw[htk i him];exact ho',by omega,hdst⟩) hDi).symm
     rw[hfr]
     have hmono:∀ j,listed.getD j false=true->(listed.setIfInBounds i true).getD j false=true:=fun j hj=>getD_set_true hj
     refine ih _ _ _ (by simpa using hsz) (by have:=left_set hun;omega) (fun j hj=>?_) (fun k o' hk hlk' j hj=>?_) ?_
     ·have hij:i≠j:=by omega
      simpa[Array.getElem?_setIfInBounds_ne hij] using hhi j hj
     ·by_cases hki:k=i
      ·subst hki
       rw[ho'] at hk;cases hk
       exact hmono j (hwait j hj)
      ·have hik:i≠k:=fun h=>hki h.symm
       exact hmono j (hcl k o' hk (by simpa[Array.getElem?_setIfInBounds_ne hik] using hlk') j hj)
     ·rw[hD'];exact hJ'
    refine⟨o,ho',.inr ⟨_,?_,hput⟩⟩
    unfold DoesG at hstep ⊢
    rw[hwant]
    split
    ·rename_i hw
     rw[if_pos hw] at hstep
     unfold Does at hstep ⊢
     rw[hexec]
     exact hstep
    ·rename_i hw
     rw[if_neg hw] at hstep
     exact hstep
 have hrep:∀ j,(Array.replicate l.length false).getD j false=false:=fun j=>by
  by_cases h:j<l.length<;>simp[h]
 have hstart:=main l.length (Array.replicate l.length false) (fun _=>undef) w0.drew (by simp) (by simp[left,List.countP_replicate]) (fun j _=>hrep j) (fun k o _ h=>by rw[hrep] at h;cases h)
  (by
   have:(fun j=>(Array.replicate l.length false).getD j false)=fun _=>false:=funext hrep
   rw[this];exact h0)
 have hfr0:z1q (fun j=>(Array.replicate l.length false).getD j false) a0 (dsts 0 (l.take m)) (fun _=>undef)=a0:=by
  have:∀ (ds:List (Nat × Tmp)) (a:Act),z1q (fun j=>(Array.replicate l.length false).getD j false) a ds (fun _=>undef)=a:=by
   intro ds
   induction ds with
   | nil=>intro a;rfl
   | cons p ds ih =>
    intro a
    obtain⟨j,d⟩:=p
    simp only[z1q]
    rw[hrep j]
    exact ih a
  exact this _ _
 rw[hfr0] at hstart
 simpa using hstart
theorem eM {l:List Nat} {a:Nat} (h:l.elem a=true):a∈l:=List.mem_of_elem_eq_true h
theorem wp_region_joint (m:Nat) (hm:P.follows .mixedOrders=true) (hg:good m l=true)
 (J:(Nat->Bool)->(Nat->Value)->World->Prop) (h0:J (fun _=>false) (fun _=>undef) w0.drew)
 (hs:∀ i o,i<m->l[i]?=some o->∀ (D:Nat->Bool) (xs:Nat->Value) (w:World),D i=false->(∀ j∈waits o,D j=true)->J D xs w ->
  DoesG P l.toArray o (fill a0 (dsts 0 (l.take m)) xs) w fun v w'=>J (fun j=>D j || j == i) (fun j=>if j=i then v else xs j) w')
 (hend:∀ (D:Nat->Bool) (xs:Nat->Value) (w:World),(∀ j,j<m->D j=true)->J D xs w->wpList P l.toArray Q (l.drop m) (fill a0 (dsts 0 (l.take m)) xs) w) :
 (Code.region id l.toArray true).wp P Q a0 w0:=by
 refine wp_region_any hm ?_
 have:=joint_gen (WL:=wpList P l.toArray Q) (WA:=wpAny P .any l.toArray Q) m hg (fun _ _ _ h1 h2=>⟨h1,h2⟩) (fun fuel listed a w h1 h2=>⟨fun e=>absurd e h1,fun i hi=>by
  obtain⟨o,ho,h⟩:=h2 i hi
  unfold wpOp
  simp only[show l.toArray[i]?=some o by simpa using ho]
  rcases h with ⟨r,h,k⟩|⟨G,h,k⟩
  ·unfold wpList at h
   split
   ·rename_i hw
    rw[if_pos hw] at h
    exact h.imp (Oper.wp_mono k) (fun x=>x)
   ·rename_i hw
    rw[if_neg hw] at h
    exact k _ _ h
  ·unfold DoesG at h
   split
   ·rename_i hw
    rw[if_pos hw] at h
    exact .inl (Does.upon h k)
   ·rename_i hw
    rw[if_neg hw] at h
    exact k _ _ h⟩) J h0 hs hend
 simpa using this
theorem put_inj {v v':Value} (h:d<a.tmps.size) (e:a.put (some d) v=a.put (some d) v'):v=v':=by
 have h3:=congrArg (fun b:Act=>b.tmps.getD d undef) e
 simpa[Act.put,h] using h3
theorem z2i (m:Nat) (J:(Nat->Bool)->(Nat->Value)->World->Prop) (hm:P.follows .mixedOrders=true) (hg:good m l=true)
 (hlt:(dsts 0 (l.take m)).all (fun p=>decide (p.2<a0.tmps.size))=true) (h0:J (fun _=>false) (fun _=>undef) w0.drew)
 (hs:z1c (fun i o=>∀ D xs w,D i=false->(∀ j∈waits o,D j=true)->J D xs w ->
  wpList P l.toArray (z2m fun a1 w'=>∃ v,a1=(fill a0 (dsts 0 (l.take m)) xs).put o.dst v/\∀ u,(o.dst.isSome=true->u=v)->J (fun j=>D j || j == i) (fun j=>if j=i then u else xs j) w') [o] (fill a0 (dsts 0 (l.take m)) xs) w) 0 (l.take m))
 (hend:∀ (D:Nat->Bool) (xs:Nat->Value) (w:World),(∀ j,j<m->D j=true)->J D xs w->wpList P l.toArray Q (l.drop m) (fill a0 (dsts 0 (l.take m)) xs) w) :
 (Code.region id l.toArray true).wp P Q a0 w0:=by
 refine wp_region_joint m hm hg J h0 ?_ hend
 intro i o him ho D xs w hD hw hJ
 have ho':(l.take m)[i]?=some o:=by rw[List.getElem?_take];simp[him,ho]
 have h1:=AllOpsI_spec (l.take m) 0 hs i o ho' D xs w (by simpa using hD) hw hJ
 simp only[Nat.zero_add] at h1
 refine z3b (z0u _ _ ?_ h1)
 rintro a1 w' ⟨v,rfl,g⟩
 have hdef:∀ (b:Act) (d:Option Tmp) (v:Value),(b.put d v).defers=b.defers:=fun b d v=>by cases d<;>rfl
 refine⟨hdef _ _ _,fun v' he=>g v' fun hds=>?_⟩
 obtain⟨d,hdd⟩:=Option.isSome_iff_exists.1 hds
 have hmem:(i,d)∈dsts 0 (l.take m):=(z2o (l.take m) 0 i d).2 ⟨i,o,ho',by omega,hdd⟩
 have hl:=List.all_eq_true.1 hlt (i,d) hmem
 rw[hdd] at he
 exact (put_inj (by rw[fill_size];simpa using hl) he).symm
end
section
variable {P:Program} {l:List Oper} {Q:Exit->Act->World->Prop} {a0:Act}
def SeqI (P:Program) (ops:Array Oper) (I:(Nat->Bool)->World->Prop):Nat->List Oper->Act->(Act->Prop)->Prop
 | _,[],a,K=>K a
 | k,o :: l,a,K=>∃ a',(∀ D w,D k=false->(∀ j∈waits o,D j=true)->I D w->wpList P ops (z2m fun a1 w'=>a1=a'/\I (fun j=>D j || j == k) w') [o] a w) /\
  a'=a.put o.dst (a'.tmps.getD (o.dst.getD 0) undef)/\SeqI P ops I (k+1) l a' K
theorem SeqI.nil {ops:Array Oper} {I:(Nat->Bool)->World->Prop} {K:Act->Prop} (h:K a):SeqI P ops I k [] a K:=h
theorem SeqI.cons {ops:Array Oper} {I:(Nat->Bool)->World->Prop} {o:Oper} {l:List Oper} {K:Act->Prop}
 (h:∀ D w,D k=false->(∀ j∈waits o,D j=true)->I D w->wpList P ops (z2m fun a1 w'=>a1=a'/\I (fun j=>D j || j == k) w') [o] a w)
 (hp:a'=a.put o.dst (a'.tmps.getD (o.dst.getD 0) undef)) (k1:SeqI P ops I (k+1) l a' K):SeqI P ops I k (o :: l) a K:=⟨a',h,hp,k1⟩
theorem Seq.cons {ops:Array Oper} {R:World->Prop} {o:Oper} {l:List Oper} {K:Act->Prop}
 (h:∀ w,R w->wpList P ops (z2m fun a1 w'=>a1=a'/\R w') [o] a w)
 (hp:a'=a.put o.dst (a'.tmps.getD (o.dst.getD 0) undef)) (k1:SeqI P ops (fun _=>R) (k+1) l a' K):SeqI P ops (fun _=>R) k (o :: l) a K:=⟨a',fun _ w _ _ hR=>h w hR,hp,k1⟩
theorem SeqI_spec {ops:Array Oper} {I:(Nat->Bool)->World->Prop} {K:Act->Prop}:∀ (l:List Oper) (k:Nat) (a:Act),SeqI P ops I k l a K ->
 ∃ (xs:Nat->Value) (fr:Nat->Act),fr k=a/\(∀ i o,l[i]?=some o->fr (k+i+1)=(fr (k+i)).put o.dst (xs (k+i)) /\
  (∀ D w,D (k+i)=false->(∀ j∈waits o,D j=true)->I D w->wpList P ops (z2m fun a1 w'=>a1=fr (k+i+1)/\I (fun j=>D j || j == (k+i)) w') [o] (fr (k+i)) w))/\K (fr (k+l.length)):=by
 intro l
 induction l with
 | nil=>intro k a h;exact⟨fun _=>undef,fun _=>a,rfl,by simp,h⟩
 | cons o l ih =>
  intro k a h
  obtain⟨a',h1,h2,h3⟩:=h
  obtain⟨xs,fr,hf,hall,hK⟩:=ih (k+1) a' h3
  refine⟨fun i=>if i=k then a'.tmps.getD (o.dst.getD 0) undef else xs i,fun i=>if i=k then a else fr i,by simp,?_,?_⟩
  ·intro i o' ho
   cases i with
   | zero =>
    simp at ho
    subst ho
    have hne:k+1≠k:=by omega
    simp only[Nat.add_zero,if_true,hne,if_false,hf]
    exact⟨h2,h1⟩
   | succ i =>
    have:=hall i o' (by simpa using ho)
    have e1:k+(i+1)=k+1+i:=by omega
    have n1:¬ (k+1+i=k):=by omega
    have n2:¬ (k+1+i+1=k):=by omega
    rw[e1]
    simp only[n1,n2,if_false]
    exact this
  ·have e1:k+(o :: l).length=k+1+l.length:=by simp;omega
   have n1:¬ (k+1+l.length=k):=by omega
   rw[e1]
   simp only[n1,if_false]
   exact hK
theorem seqI_gen {Goal:Prop} {Tail:Act->World->Prop} (m:Nat) (I:(Nat->Bool)->World->Prop) (hg:good m l=true)
 (hlt:(dsts 0 (l.take m)).all (fun p=>decide (p.2<a0.tmps.size))=true)
 (hs:SeqI P l.toArray I 0 (l.take m) a0 (fun F=>∀ D w,(∀ j,j<m->D j=true)->I D w->Tail F w))
 (hinv:∀ (V:Nat->Value->World->Prop),(∀ i o,i<m->l[i]?=some o->∀ (D:Nat->Bool) (xs:Nat->Value) (w:World),D i=false->(∀ j∈waits o,D j=true)->(∀ j,D j=true->V j (xs j) w)->I D w ->
  DoesG P l.toArray o (fill a0 (dsts 0 (l.take m)) xs) w fun v w'=>V i v w'/\(∀ j,D j=true->V j (xs j) w')/\I (fun j=>D j || j == i) w') ->
  (∀ (D:Nat->Bool) (xs:Nat->Value) (w:World),(∀ j,j<m->D j=true)->(∀ j,j<m->V j (xs j) w)->I D w->Tail (fill a0 (dsts 0 (l.take m)) xs) w)->Goal):Goal:=by
 have hg':=hg
 simp only[good,Bool.and_eq_true,decide_eq_true_eq] at hg'
 obtain⟨⟨⟨hg1,hg2⟩,hml⟩,_⟩:=hg'
 have htk:∀ i,i<m->(l.take m)[i]?=l[i]?:=fun i hi=>by simp[hi]
 obtain⟨xs,fr,hf0,hall,hK⟩:=SeqI_spec (l.take m) 0 a0 hs
 have hdis:=distinct_spec hg1
 have hmem':∀ p∈dsts 0 (l.take m),p.1<m/\(l[p.1]?).bind (fun o=>o.dst)=some p.2:=fun p hp=>by
  obtain⟨i',o',hi',hj',hd'⟩:=(z2o (l.take m) 0 p.1 p.2).1 hp
  have h1:=(List.getElem?_eq_some_iff.1 hi').1
  simp only[List.length_take] at h1
  have h2:p.1=i':=by omega
  rw[htk i' (by omega)] at hi'
  exact⟨by omega,by rw[h2,hi'];exact hd'⟩
 have hfr:∀ i,i<=m->fr i=z1q (fun j=>decide (j<i)) a0 (dsts 0 (l.take m)) xs:=by
  intro i
  induction i with
  | zero =>
   intro _
   rw[hf0]
   have:∀ (ds:List (Nat × Tmp)) (a:Act),z1q (fun j=>decide (j<0)) a ds xs=a:=by
    intro ds
    induction ds with
    | nil=>intro a;rfl
    | cons p ds ih=>intro a;obtain⟨j,d⟩:=p;simp only[z1q];exact ih a
   exact (this _ _).symm
  | succ i ih =>
   intro hi
   have hil:i<l.length:=by omega
   have ho:(l.take m)[i]?=some l[i]:=by rw[htk i (by omega)];simp[hil]
   have h1:=(hall i l[i] ho).1
   simp only[Nat.zero_add] at h1
   rw[h1,ih (by omega)]
   cases hd:l[i].dst with
   | none =>
    simp only[Act.put]
    refine fillIf_congr _ _ fun p hp=>?_
    have hne:p.1≠i:=fun he=>by
     have:=(hmem' p hp).2
     rw[he] at this
     simp[hil,hd] at this
    constructor
    ·simp only[decide_eq_decide];omega
    ·intro _;rfl
   | some d =>
    have:=fillIf_set (D:=fun j=>decide (j<i)) (xs:=xs) i (xs i) (dsts 0 (l.take m)) a0 d hdis ((z2o (l.take m) 0 i d).2 ⟨i,l[i],ho,by omega,hd⟩) (by simp)
    rw[<- this]
    refine fillIf_congr _ _ fun p _=>⟨?_,fun _=>?_⟩
    ·by_cases h:p.1=i
     ·simp[h]
     ·have hb:(p.1 == i)=false:=by simpa using h
      simp only[hb,Bool.or_false,decide_eq_decide];omega
    ·split
     ·rename_i h;rw[h]
     ·rfl
 have hsz:∀ (D:Nat->Bool) (ds:List (Nat × Tmp)) (a:Act),(z1q D a ds xs).tmps.size=a.tmps.size:=by
  intro D ds
  induction ds with
  | nil=>intro a;rfl
  | cons p ds ih=>intro a;obtain⟨j,d⟩:=p;simp only[z1q];rw[ih];split<;>simp[Act.put]
 refine hinv (fun j v _=>∀ d,(l[j]?).bind (fun o=>o.dst)=some d->v=xs j) ?_ ?_
 ·intro i o him ho D ys w hD hwait hV hI
  have ho':(l.take m)[i]?=some o:=by rw[htk i him];exact ho
  have hok:looksOk l.toArray (dsts 0 (l.take m)) i o=true:=by simpa using goodOps_spec (l.take m) 0 hg2 i o ho'
  obtain⟨hput,hrun⟩:=hall i o ho'
  have h1:=hrun D w (by simpa using hD) hwait hI
  simp only[Nat.zero_add] at h1 hput
  have hstep:DoesG P l.toArray o (fr i) w (fun v w'=>(∀ d,o.dst=some d->v=xs i)/\I (fun j=>D j || j == i) w'):=by
   refine z3b (z0u _ _ ?_ h1)
   rintro a w' ⟨rfl,hR⟩
   have hdef:∀ (b:Act) (d:Option Tmp) (v:Value),(b.put d v).defers=b.defers:=fun b d v=>by cases d<;>rfl
   refine⟨by rw[hput,hdef],fun v hv=>⟨fun d hd=>?_,hR⟩⟩
   rw[hput] at hv
   simp only[hd] at hv
   have hmem:(i,d)∈dsts 0 (l.take m):=(z2o (l.take m) 0 i d).2 ⟨i,o,ho',by omega,hd⟩
   have hlt':d<(fr i).tmps.size:=by
    rw[hfr i (by omega),hsz]
    have:=List.all_eq_true.1 hlt (i,d) hmem
    simpa using this
   have h3:=congrArg (fun b:Act=>b.tmps.getD d undef) hv
   simpa[Act.put,hlt'] using h3.symm
  rw[hfr i (by omega)] at hstep
  have hok':=hok
  simp only[looksOk,Bool.and_eq_true,List.all_eq_true] at hok'
  have hlooks:∀ t∈o.looksAt l.toArray,∀ p∈dsts 0 (l.take m),t=p.2->p.1∈waits o:=fun t ht p hp hte=>by
   have h1:=hok'.1.1 t ht p hp
   subst hte
   simpa using h1
  have hwi:∀ j∈waits o,j<i:=fun j hj=>by
   have:=hok'.1.2 j hj
   simpa using this
  have hval:∀ p∈dsts 0 (l.take m),p.1∈waits o->xs p.1=ys p.1:=fun p hp hw=>(hV p.1 (hwait _ hw) p.2 (hmem' p hp).2).symm
  have hev:∀ x∈o.op.operands,(z1q (fun j=>decide (j<i)) a0 (dsts 0 (l.take m)) xs).eval x=(fill a0 (dsts 0 (l.take m)) ys).eval x:=fun x hx=>by
   have hl:∀ p∈dsts 0 (l.take m),x=.tmp p.2->p.1∈waits o:=fun p hp hxe=>hlooks p.2 (by
    subst hxe
    exact List.mem_append_left _ (List.mem_filterMap.2 ⟨.tmp p.2,by simpa using hx,rfl⟩)) p hp rfl
   rw[eval_fillIf x _ _ (fun p hp hxe=>by simpa using hwi _ (hl p hp hxe))]
   exact z2z x _ _ fun p hp hxe=>hval p hp (hl p hp hxe)
  have hsel:∀ cs b,o.op≠.select cs b:=fun cs b he=>by
   have:=hok'.2
   rw[he] at this
   cases this
  have hexec:=execOp_congr o hsel hev
  have hwant:Region.wanted o (yielded l.toArray (z1q (fun j=>decide (j<i)) a0 (dsts 0 (l.take m)) xs).tmps)=Region.wanted o (yielded l.toArray (fill a0 (dsts 0 (l.take m)) ys).tmps):=by
   unfold Region.wanted
   cases hgd:o.guard with
   | none=>rfl
   | some gw =>
    obtain⟨g,want⟩:=gw
    simp only[]
    have hl:∀ d,(l.toArray[g]?).bind (fun o=>o.dst)=some d->∀ p∈dsts 0 (l.take m),(.tmp d:Operand)=.tmp p.2->p.1∈waits o:=fun d hd p hp hpe=>hlooks p.2 (by
     refine List.mem_append_right _ ?_
     simp only[hgd]
     have hpd:d=p.2:=by cases hpe;rfl
     rw[hd,hpd]
     simp) p hp rfl
    have hy:yielded l.toArray (z1q (fun j=>decide (j<i)) a0 (dsts 0 (l.take m)) xs).tmps g=yielded l.toArray (fill a0 (dsts 0 (l.take m)) ys).tmps g:=yielded_eval (fun d hd=>by
     rw[eval_fillIf (.tmp d) _ _ (fun p hp hpe=>by simpa using hwi _ (hl d hd p hp hpe))]
     exact z2z (.tmp d) _ _ fun p hp hpe=>hval p hp (hl d hd p hp hpe))
    rw[hy]
  have fin:∀ v w',((∀ d,o.dst=some d->v=xs i)/\I (fun j=>D j || j == i) w')->((∀ d,(l[i]?).bind (fun o=>o.dst)=some d->v=xs i)/\(∀ j,D j=true->∀ d,(l[j]?).bind (fun o=>o.dst)=some d->ys j=xs j)/\I (fun j=>D j || j == i) w'):=fun v w' h =>
   ⟨fun d hd=>h.1 d (by simpa[ho] using hd),fun j hj=>hV j hj,h.2⟩
  unfold DoesG Does at *
  rw[hwant,hexec] at hstep
  split
  ·rename_i hw
   rw[if_pos hw] at hstep
   generalize (execOp (fill a0 (dsts 0 (l.take m)) ys).eval o).run P w=r at *
   cases r with
   | ok n w' =>
    cases n<;>simp only[] at hstep ⊢
    case value v=>exact fin _ _ hstep
    case skip=>exact fin _ _ hstep
    case enter f args=>exact Calls.mono hstep fun e w'' ⟨v,he,hv⟩=>⟨v,he,fin _ _ hv⟩
    case row row args=>exact Rows.mono hstep fun v w'' hv=>fin _ _ hv
   | halt x w'=>exact hstep
  ·rename_i hw
   rw[if_neg hw] at hstep
   exact fin _ _ hstep
 ·intro D ys w hD hV hI
  have hlen:(l.take m).length=m:=by simp;omega
  rw[hlen,Nat.zero_add,hfr m (Nat.le_refl _)] at hK
  rw[fill_congr (xs':=xs)]
  ·rw[fillIf_all _ _ (fun p hp=>by simpa using (hmem' p hp).1)] at hK
   exact hK D w hD hI
  ·intro p hp
   exact hV p.1 (hmem' p hp).1 p.2 (hmem' p hp).2
theorem wp_region_inv (m:Nat) (hm:P.follows .mixedOrders=true) (hg:good m l=true)
 (V:Nat->Value->World->Prop) (I:(Nat->Bool)->World->Prop) (h0:I (fun _=>false) w0.drew)
 (hs:∀ i o,i<m->l[i]?=some o->∀ (D:Nat->Bool) (xs:Nat->Value) (w:World),D i=false->(∀ j∈waits o,D j=true)->(∀ j,D j=true->V j (xs j) w)->I D w ->
  DoesG P l.toArray o (fill a0 (dsts 0 (l.take m)) xs) w fun v w'=>V i v w'/\(∀ j,D j=true->V j (xs j) w')/\I (fun j=>D j || j == i) w')
 (hend:∀ (D:Nat->Bool) (xs:Nat->Value) (w:World),(∀ j,j<m->D j=true)->(∀ j,j<m->V j (xs j) w)->I D w->wpList P l.toArray Q (l.drop m) (fill a0 (dsts 0 (l.take m)) xs) w) :
 (Code.region id l.toArray true).wp P Q a0 w0:=by
 refine wp_region_joint m hm hg (fun D xs w=>(∀ j,D j=true->V j (xs j) w)/\I D w) ⟨fun j h=>(by cases h),h0⟩ ?_ ?_
 ·rintro i o him ho D xs w hD hw ⟨hV,hI⟩
  refine (hs i o him ho D xs w hD hw hV hI).mono fun v w' ⟨h1,h2,h3⟩=>⟨fun j hj=>?_,h3⟩
  by_cases e:j=i
  ·subst e;simp only[if_pos];exact h1
  ·simp only[if_neg e];exact h2 j (by simpa[e] using hj)
 ·exact fun D xs w hD h=>hend D xs w hD (fun j hj=>h.1 j (hD j hj)) h.2
theorem z0f (m:Nat) (I:(Nat->Bool)->World->Prop) (hm:P.follows .mixedOrders=true) (hg:good m l=true)
 (hlt:(dsts 0 (l.take m)).all (fun p=>decide (p.2<a0.tmps.size))=true) (h0:I (fun _=>false) w0.drew)
 (hs:SeqI P l.toArray I 0 (l.take m) a0 (fun F=>∀ D w,(∀ j,j<m->D j=true)->I D w->wpList P l.toArray Q (l.drop m) F w)):(Code.region id l.toArray true).wp P Q a0 w0 :=
 seqI_gen m I hg hlt hs (fun V h1 h2=>wp_region_inv m hm hg V I h0 h1 h2)
theorem z0g (m:Nat) (R:World->Prop) (hm:P.follows .mixedOrders=true) (hg:good m l=true)
 (hlt:(dsts 0 (l.take m)).all (fun p=>decide (p.2<a0.tmps.size))=true) (h0:R w0.drew)
 (hs:SeqI P l.toArray (fun _=>R) 0 (l.take m) a0 (fun F=>∀ (D:Nat->Bool) w,(∀ j,j<m->D j=true)->R w->wpList P l.toArray Q (l.drop m) F w)):(Code.region id l.toArray true).wp P Q a0 w0 :=
 z0f m (fun _=>R) hm hg hlt h0 hs
end
def Turn (c:Nat) (A B:World->Prop):(Nat->Bool)->World->Prop:=fun D w=>cond (D c) (B w) (A w)
section
variable {P:Program} {ops:Array Oper} {A B:World->Prop} {c k:Nat} {o:Oper} {l:List Oper} {a a':Act} {K:Act->Prop}
theorem Turn.other {D:Nat->Bool} (h:c≠k):Turn c A B (fun j=>D j || j == k) w=Turn c A B D w:=by
 unfold Turn
 have:(c == k)=false:=by simpa using h
 simp[this]
theorem Turn.or {D:Nat->Bool} (h:Turn c A B D w):A w\/B w:=by
 unfold Turn at h
 cases hD:D c<;>rw[hD] at h
 ·exact .inl h
 ·exact .inr h
theorem Seq.calm (hk:c≠k) (h:∀ w,(A w\/B w)->wpList P ops (z2m fun a1 w'=>a1=a'/\(A w->A w')/\(B w->B w')) [o] a w)
 (hp:a'=a.put o.dst (a'.tmps.getD (o.dst.getD 0) undef)) (k1:SeqI P ops (Turn c A B) (k+1) l a' K):SeqI P ops (Turn c A B) k (o :: l) a K :=
 ⟨a',fun D w _ _ hI=>z0u _ _ (by
  rintro a1 w' ⟨rfl,h1,h2⟩
  refine⟨rfl,?_⟩
  rw[Turn.other hk]
  unfold Turn at hI ⊢
  cases hD:D c<;>rw[hD] at hI<;>simp only[cond_true,cond_false] at hI ⊢
  ·exact h1 hI
  ·exact h2 hI) (h w hI.or),hp,k1⟩
theorem Seq.turn (h:∀ w,A w->wpList P ops (z2m fun a1 w'=>a1=a'/\B w') [o] a w)
 (hp:a'=a.put o.dst (a'.tmps.getD (o.dst.getD 0) undef)) (k1:SeqI P ops (Turn c A B) (c+1) l a' K):SeqI P ops (Turn c A B) c (o :: l) a K :=
 ⟨a',fun D w hD _ hI=>z0u _ _ (by
  rintro a1 w' ⟨rfl,h1⟩
  refine⟨rfl,?_⟩
  unfold Turn
  simpa using h1) (h w (by unfold Turn at hI;rw[hD] at hI;exact hI)),hp,k1⟩
theorem Turn.start (h:A w):Turn c A B (fun _=>false) w:=h
theorem Turn.done {D:Nat->Bool} (h:Turn c A B D w) (hD:D c=true):B w:=by
 unfold Turn at h
 rw[hD] at h
 exact h
end
def z3a (c d:Nat) (S:Bool->Bool->World->Prop):(Nat->Bool)->World->Prop:=fun D w=>S (D c) (D d) w
section
variable {P:Program} {ops:Array Oper} {S:Bool->Bool->World->Prop} {c d k:Nat} {o:Oper} {l:List Oper} {a a':Act} {K:Act->Prop}
theorem Seq2.calm (hc:c≠k) (hd:d≠k) (h:∀ b1 b2 w,S b1 b2 w->wpList P ops (z2m fun a1 w'=>a1=a'/\S b1 b2 w') [o] a w)
 (hp:a'=a.put o.dst (a'.tmps.getD (o.dst.getD 0) undef)) (k1:SeqI P ops (z3a c d S) (k+1) l a' K):SeqI P ops (z3a c d S) k (o :: l) a K :=
 ⟨a',fun D w _ _ hI=>z0u _ _ (by
  rintro a1 w' ⟨rfl,h1⟩
  refine⟨rfl,?_⟩
  unfold z3a
  have e1:(c == k)=false:=by simpa using hc
  have e2:(d == k)=false:=by simpa using hd
  simpa[e1,e2] using h1) (h _ _ w hI),hp,k1⟩
theorem Seq2.fst (hd:d≠c) (h:∀ b2 w,S false b2 w->wpList P ops (z2m fun a1 w'=>a1=a'/\S true b2 w') [o] a w)
 (hp:a'=a.put o.dst (a'.tmps.getD (o.dst.getD 0) undef)) (k1:SeqI P ops (z3a c d S) (c+1) l a' K):SeqI P ops (z3a c d S) c (o :: l) a K :=
 ⟨a',fun D w hD _ hI=>z0u _ _ (by
  rintro a1 w' ⟨rfl,h1⟩
  refine⟨rfl,?_⟩
  unfold z3a
  have e2:(d == c)=false:=by simpa using hd
  simpa[e2] using h1) (h (D d) w (by unfold z3a at hI;rw[hD] at hI;exact hI)),hp,k1⟩
theorem Seq2.snd (hc:c≠d) (h:∀ b1 w,S b1 false w->wpList P ops (z2m fun a1 w'=>a1=a'/\S b1 true w') [o] a w)
 (hp:a'=a.put o.dst (a'.tmps.getD (o.dst.getD 0) undef)) (k1:SeqI P ops (z3a c d S) (d+1) l a' K):SeqI P ops (z3a c d S) d (o :: l) a K :=
 ⟨a',fun D w hD _ hI=>z0u _ _ (by
  rintro a1 w' ⟨rfl,h1⟩
  refine⟨rfl,?_⟩
  unfold z3a
  have e2:(c == d)=false:=by simpa using hc
  simpa[e2] using h1) (h (D c) w (by unfold z3a at hI;rw[hD] at hI;exact hI)),hp,k1⟩
theorem z3a.start (h:S false false w):z3a c d S (fun _=>false) w:=h
theorem z3a.done {D:Nat->Bool} (h:z3a c d S D w) (hc:D c=true) (hd:D d=true):S true true w:=by
 unfold z3a at h
 rwa [hc,hd] at h
end
def maskOf (ms:List Nat) (ws:List Nat):Nat:=ws.foldl (fun acc p=>acc ||| 2 ^ p ||| ms.getD p 0) 0
def masks (l:List Oper):List Nat:=l.foldl (fun ms o=>ms++[maskOf ms (waits o)]) []
theorem maskOf_bit {ms:List Nat} {D:Nat->Bool} (h:∀ p j,D p=true->(ms.getD p 0).testBit j=true->D j=true):∀ (ws:List Nat) (acc:Nat),(∀ p∈ws,D p=true)->(∀ j,acc.testBit j=true->D j=true) ->
 ∀ j,(ws.foldl (fun acc p=>acc ||| 2 ^ p ||| ms.getD p 0) acc).testBit j=true->D j=true:=by
 intro ws
 induction ws with
 | nil=>intro acc _ ha j hj;exact ha j hj
 | cons p ws ih =>
  intro acc hw ha j hj
  refine ih _ (fun q hq=>hw q (by simp[hq])) (fun i hi=>?_) j hj
  simp only[Nat.testBit_or,Bool.or_eq_true] at hi
  rcases hi with (hi|hi)|hi
  ·exact ha i hi
  ·rw[Nat.testBit_two_pow] at hi
   have:p=i:=by simpa using hi
   subst this
   exact hw p (by simp)
  ·exact h p i (hw p (by simp)) hi
theorem masks_bit {l:List Oper} {D:Nat->Bool} (hcl:∀ k o,l[k]?=some o->D k=true->∀ j∈waits o,D j=true):∀ i j,D i=true->((masks l).getD i 0).testBit j=true->D j=true:=by
 have main:∀ (rest done:List Oper) (ms:List Nat),done++rest=l->ms.length=done.length->(∀ i j,D i=true->(ms.getD i 0).testBit j=true->D j=true) ->
  ∀ i j,D i=true->((rest.foldl (fun ms o=>ms++[maskOf ms (waits o)]) ms).getD i 0).testBit j=true->D j=true:=by
  intro rest
  induction rest with
  | nil=>intro done ms _ _ h i j hi hj;exact h i j hi hj
  | cons o rest ih =>
   intro done ms hl hlen h i j hi hj
   refine ih (done++[o]) (ms++[maskOf ms (waits o)]) (by simpa using hl) (by simp[hlen]) (fun i j hi hj=>?_) i j hi hj
   by_cases hin:i<ms.length
   ·rw[List.getD_eq_getElem?_getD,List.getElem?_append_left hin,<- List.getD_eq_getElem?_getD] at hj
    exact h i j hi hj
   ·rw[List.getD_eq_getElem?_getD,List.getElem?_append_right (by omega)] at hj
    by_cases hie:i=ms.length
    ·subst hie
     simp at hj
     have ho:l[ms.length]?=some o:=by rw[<- hl,hlen];simp
     exact maskOf_bit h (waits o) 0 (hcl _ o ho hi) (fun j hj=>by simp at hj) j hj
    ·have:i - ms.length≠0:=by omega
     have h0:([maskOf ms (waits o)])[i - ms.length]?=none:=by
      apply List.getElem?_eq_none
      simp
      omega
     rw[h0] at hj
     simp at hj
 exact main l [] [] rfl rfl (fun i j _ hj=>by simp at hj)
section
variable {P:Program} {l:List Oper} {Q:Exit->Act->World->Prop} {a0:Act}
def behind (l:List Oper) (i j:Nat):Bool:=((masks l).getD i 0).testBit j
def Closed (l:List Oper) (D:Nat->Bool):Prop:=∀ k o,l[k]?=some o->D k=true->∀ j∈waits o,D j=true
theorem Closed.back {D:Nat->Bool} (h:Closed l D) {i j:Nat} (hb:behind l i j=true) (hi:D i=true):D j=true:=masks_bit h i j hi hb
theorem Closed.ahead {D:Nat->Bool} (h:Closed l D) {i j:Nat} (hb:behind l i j=true) (hj:D j=false):D i=false:=by
 cases hi:D i
 ·rfl
 ·rw[h.back hb hi] at hj
  cases hj
theorem Closed.z1x {D:Nat->Bool} (h:Closed l D) {j:Nat} {o:Oper} (hw:∀ i∈Go.Burg.waits o,D i=true) (hb:(Go.Burg.waits o).any (fun i=>i == j || Go.Burg.behind l i j)=true):D j=true:=by
 obtain⟨i,hi,hij⟩:=List.any_eq_true.1 hb
 rcases Bool.or_eq_true_iff.1 hij with e|e
 ·have:i=j:=by simpa using e
  subst this
  exact hw i hi
 ·exact h.back e (hw i hi)
def SeqC (P:Program) (L:List Oper) (ops:Array Oper) (I:(Nat->Bool)->World->Prop):Nat->List Oper->Act->(Act->Prop)->Prop
 | _,[],a,K=>K a
 | k,o :: l,a,K=>∃ a',(∀ D w,D k=false->(∀ j∈Go.Burg.waits o,D j=true)->Closed L D->I D w->wpList P ops (z2m fun a1 w'=>a1=a'/\I (fun j=>D j || j == k) w') [o] a w) /\
  a'=a.put o.dst (a'.tmps.getD (o.dst.getD 0) undef)/\SeqC P L ops I (k+1) l a' K
theorem Closed.start (l:List Oper):Closed l (fun _=>false):=fun _ _ _ h=>by cases h
theorem Closed.more {D:Nat->Bool} {o:Oper} (h:Closed l D) (ho:l[k]?=some o) (hw:∀ j∈Go.Burg.waits o,D j=true):Closed l (fun j=>D j || j == k):=by
 intro k' o' ho' hk' j hj
 by_cases e:k'=k
 ·subst e
  rw[ho] at ho'
  cases ho'
  simp[hw j hj]
 ·have:=h k' o' ho' (by simpa[e] using hk') j hj
  simp[this]
theorem SeqC.seq {L:List Oper} {ops:Array Oper} {I:(Nat->Bool)->World->Prop} {K K':Act->Prop} (hK:∀ a,K a->K' a):∀ (r:List Oper) (k:Nat) (a:Act),(∀ i o,r[i]?=some o->L[k+i]?=some o)->SeqC P L ops I k r a K->SeqI P ops (fun D w=>Closed L D/\I D w) k r a K'
 | [],_,a,_,h=>hK a h
 | o :: r,k,a,hr,⟨a',h1,h2,h3⟩=>⟨a',fun D w hD hw hI=>z0u _ _ (fun a1 w' h=>⟨h.1,hI.1.more (hr 0 o rfl) hw,h.2⟩) (h1 D w hD hw hI.1 hI.2),h2,
  SeqC.seq hK r (k+1) a' (fun i o' hi=>by rw[Nat.add_right_comm];exact hr (i+1) o' hi) h3⟩
theorem wp_region_seqC (m:Nat) (I:(Nat->Bool)->World->Prop) (hm:P.follows .mixedOrders=true) (hg:good m l=true)
 (hlt:(dsts 0 (l.take m)).all (fun p=>decide (p.2<a0.tmps.size))=true) (h0:I (fun _=>false) w0.drew)
 (hs:SeqC P l l.toArray I 0 (l.take m) a0 (fun F=>∀ D w,(∀ j,j<m->D j=true)->I D w->wpList P l.toArray Q (l.drop m) F w)):(Code.region id l.toArray true).wp P Q a0 w0 :=
 z0f m (fun D w=>Closed l D/\I D w) hm hg hlt ⟨Closed.start l,h0⟩ (SeqC.seq (fun a h D w hD hI=>h D w hD hI.2) _ _ _ (fun i o hi=>by
  rw[Nat.zero_add]
  rw[List.getElem?_take] at hi
  split at hi
  ·exact hi
  ·cases hi) hs)
theorem SeqC.calm {L:List Oper} {ops:Array Oper} {S:Bool->Bool->World->Prop} {o:Oper} {r:List Oper} {K:Act->Prop} (hc:c≠k) (hd:d≠k)
 (h:∀ b1 b2 w,(behind L c k=true->b1=false)->((Go.Burg.waits o).any (fun i=>i == c || behind L i c)=true->b1=true)->(behind L d k=true->b2=false)->((Go.Burg.waits o).any (fun i=>i == d || behind L i d)=true->b2=true)->S b1 b2 w->wpList P ops (z2m fun a1 w'=>a1=a'/\S b1 b2 w') [o] a w)
 (hp:a'=a.put o.dst (a'.tmps.getD (o.dst.getD 0) undef)) (k1:SeqC P L ops (z3a c d S) (k+1) r a' K):SeqC P L ops (z3a c d S) k (o :: r) a K :=
 ⟨a',fun D w hDk hw hcl hI=>z0u _ _ (by
  rintro a1 w' ⟨rfl,h1⟩
  refine⟨rfl,?_⟩
  unfold z3a
  have e1:(c == k)=false:=by simpa using hc
  have e2:(d == k)=false:=by simpa using hd
  simpa[e1,e2] using h1) (h _ _ w (fun e=>hcl.ahead e hDk) (fun e=>hcl.z1x hw e) (fun e=>hcl.ahead e hDk) (fun e=>hcl.z1x hw e) hI),hp,k1⟩
theorem SeqC.fst {L:List Oper} {ops:Array Oper} {S:Bool->Bool->World->Prop} {o:Oper} {r:List Oper} {K:Act->Prop} (hd:d≠c)
 (h:∀ b2 w,(behind L d c=true->b2=false)->((Go.Burg.waits o).any (fun i=>i == d || behind L i d)=true->b2=true)->S false b2 w->wpList P ops (z2m fun a1 w'=>a1=a'/\S true b2 w') [o] a w)
 (hp:a'=a.put o.dst (a'.tmps.getD (o.dst.getD 0) undef)) (k1:SeqC P L ops (z3a c d S) (c+1) r a' K):SeqC P L ops (z3a c d S) c (o :: r) a K :=
 ⟨a',fun D w hD hw hcl hI=>z0u _ _ (by
  rintro a1 w' ⟨rfl,h1⟩
  refine⟨rfl,?_⟩
  unfold z3a
  have e2:(d == c)=false:=by simpa using hd
  simpa[e2] using h1) (h (D d) w (fun e=>hcl.ahead e hD) (fun e=>hcl.z1x hw e) (by unfold z3a at hI;rw[hD] at hI;exact hI)),hp,k1⟩
theorem SeqC.snd {L:List Oper} {ops:Array Oper} {S:Bool->Bool->World->Prop} {o:Oper} {r:List Oper} {K:Act->Prop} (hc:c≠d)
 (h:∀ b1 w,(behind L c d=true->b1=false)->((Go.Burg.waits o).any (fun i=>i == c || behind L i c)=true->b1=true)->S b1 false w->wpList P ops (z2m fun a1 w'=>a1=a'/\S b1 true w') [o] a w)
 (hp:a'=a.put o.dst (a'.tmps.getD (o.dst.getD 0) undef)) (k1:SeqC P L ops (z3a c d S) (d+1) r a' K):SeqC P L ops (z3a c d S) d (o :: r) a K :=
 ⟨a',fun D w hD hw hcl hI=>z0u _ _ (by
  rintro a1 w' ⟨rfl,h1⟩
  refine⟨rfl,?_⟩
  unfold z3a
  have e2:(c == d)=false:=by simpa using hc
  simpa[e2] using h1) (h (D c) w (fun e=>hcl.ahead e hD) (fun e=>hcl.z1x hw e) (by unfold z3a at hI;rw[hD] at hI;exact hI)),hp,k1⟩
theorem SeqC.nil {L:List Oper} {ops:Array Oper} {I:(Nat->Bool)->World->Prop} {K:Act->Prop} (h:K a):SeqC P L ops I k [] a K:=h
end
end Go.Burg
