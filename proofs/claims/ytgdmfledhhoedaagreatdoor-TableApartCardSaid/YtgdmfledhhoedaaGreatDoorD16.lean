/- Part 16 of 27. -/
import Derived.Test.YtgdmfledhhoedaaGreatDoorD15
import Derived.Test.YtgdmfledhhoedaaGreatDoorD13
import Derived.Test.YtgdmfledhhoedaaGreatDoorD02
import Derived.Test.YtgdmfledhhoedaaGreatDoorD01
namespace Go.Burg
open Go Go.RowKit
def Stop (P:List (Cel PNd)) (c:ByteArray) (u:Nat) (gu:Int) (plu:Bool) (preu:List UInt8) (s:SpotP):Prop :=
 (∃ c' v,z0l P u gu u ⟨.leaf c' v,false,false⟩/\plu=false/\((c'=c/\s.what=1/\s.at_=0)\/(c'≠c/\s.what=4/\s.at_=com (rst c preu.length) (rst c' preu.length)))) \/
 (∃ k pt L,z0l P u gu u ⟨.z0k k pt L,plu,false⟩/\((s.what=3/\com (rst c preu.length) pt<pt.size/\s.at_=com (rst c preu.length) pt) \/
  (∃ x,s.what=2/\com (rst c preu.length) pt=pt.size/\(byt (rst c preu.length))[pt.size]?=some x/\s.at_=x.toNat/\z0p L (x.toNat:Int)=none)))
def LiftS (P:List (Cel PNd)) (i:Nat) (g:Int) (pl:Bool) (pre:List UInt8) (S:Nat->Prop) (u:Nat) (gu:Int) (plu:Bool) (preu:List UInt8) (Su:Nat->Prop) (E1 E2:Ents):Prop :=
 ∀ P' Su' Eu',Sub P' u gu plu preu Su' Eu'->(∀ x,S x->¬ Su x->P'[x]?=P[x]?)->(∀ x,Su' x->Su x\/¬ S x)->∃ S',Sub P' i g pl pre S' (E1++(Eu'++E2))/\∀ x,S' x->(S x/\¬ Su x)\/Su' x
def LiftT (P:List (Cel PNd)) (i:Nat) (g:Int) (pl:Bool) (pre:List UInt8) (S:Nat->Prop) (p:Nat) (gp:Int) (kp:Nat) (ptp:ByteArray) (Lp:List Kd) (plp:Bool) (kk:Kd) (preu:List UInt8) (Su:Nat->Prop) (E1 E2:Ents):Prop :=
 ∀ (P':List (Cel PNd)) (u':Nat) (gu':Int) (Su':Nat->Prop) (Eu':Ents),Sub P' u' gu' false preu Su' Eu'->z0l P' p gp p ⟨.z0k kp ptp (z1t Lp kk.b u' gu'),plp,false⟩->(∀ x,S x->¬ Su x->x≠p->P'[x]?=P[x]?)->(∀ x,Su' x->Su x\/¬ S x)->(⟨kk.b,u',gu'⟩:Kd).ok ->
  ∃ S',Sub P' i g pl pre S' (E1++(Eu'++E2))/\∀ x,S' x->(S x/\¬ Su x)\/Su' x
def Par (P:List (Cel PNd)) (i:Nat) (g:Int) (pl:Bool) (pre:List UInt8) (S:Nat->Prop) (u:Nat) (gu:Int) (preu:List UInt8) (Su:Nat->Prop) (E1 E2:Ents) (W1:List (Int × Int)):Prop :=
 ∃ (p:Nat) (gp:Int) (kp:Nat) (ptp:ByteArray) (Lp:List Kd) (plp:Bool) (jp:Nat) (kk:Kd) (W2:List (Int × Int)),W1=W2++[((p:Int),gp)]/\z0l P p gp p ⟨.z0k kp ptp Lp,plp,false⟩/\Lp[jp]?=some kk/\kk.s=u/\kk.g=gu /\
  (∀ (m:Nat) (x:Kd),m<jp->Lp[m]?=some x->¬ (x.s=(u:Int)/\x.g=gu))/\Rise Lp/\kk.ok/\S p/\¬ Su p/\(plp=false->2<=Lp.length)/\LiftT P i g pl pre S p gp kp ptp Lp plp kk preu Su E1 E2
variable {L:List Kd}
theorem set_self {j:Nat} {kd:Kd} (h:L[j]?=some kd) {a b:Int} (ha:kd.s=a) (hb:kd.g=b):L.set j ⟨kd.b,a,b⟩=L:=by
 subst ha hb
 obtain⟨hl,rfl⟩:=List.getElem?_eq_some_iff.1 h
 exact List.set_getElem_self hl
theorem Sub.down {P:List (Cel PNd)} {i:Nat} {g:Int} {pl:Bool} {pre:List UInt8} {S:Nat->Prop} {E:Ents} (h:Sub P i g pl pre S E) {c:ByteArray} (hc:z2l c):∀ (_:pre <+: byt c) (_:pl=true->pre=[]) (W:List (Int × Int)),
 ∃ (s:SpotP) (u:Nat) (gu:Int) (plu:Bool) (preu:List UInt8) (Su:Nat->Prop) (Eu E1 E2:Ents) (W1:List (Int × Int)),SeekW P c ((i:Int),g) pre.length W s/\Sub P u gu plu preu Su Eu/\preu <+: byt c/\(plu=true->preu=[])/\E=E1++(Eu++E2)/\(∀ x,Su x->S x) /\
  s.way=W++(W1++[((u:Int),gu)])/\s.depth=preu.length/\Stop P c u gu plu preu s/\LiftS P i g pl pre S u gu plu preu Su E1 E2 /\
  ((W1=[]/\u=i/\gu=g/\plu=pl/\preu=pre/\E1=[]/\E2=[])\/Par P i g pl pre S u gu preu Su E1 E2 W1):=by
 induction h with
 | @leaf i g c' v pre h hp' hc' =>
  intro hp _ W
  have h1:=hp.length_le
  have h2:=hp'.length_le
  rw[z1b] at h1 h2
  refine⟨_,i,g,false,pre,_,_,[],[],[],SeekW.leaf (r:=((i:Int),g)) h rfl h1 h2,.leaf h hp' hc',hp,(fun e=>by cases e),by simp,fun x hx=>hx,by simp,rfl,.inl ⟨c',v,h,rfl,?_⟩,?_,.inl ⟨rfl,rfl,rfl,rfl,rfl,rfl,rfl⟩⟩
  ·by_cases e:c'=c
   ·exact .inl ⟨e,by simp[e],by simp[e]⟩
   ·exact .inr ⟨e,by simp[e],by simp[e]⟩
  ·intro P' Su' Eu' hs _ _
   exact⟨Su',by simpa using hs,fun x hx=>.inr hx⟩
 | @node i g k pt L pl pre ki Ss Es h hk hsub d1 d2 hr hok hl hn ha ih =>
  intro hp hpl W
  have hd:=hp.length_le
  rw[z1b] at hd
  have me:=Sub.node h hk hsub d1 d2 hr hok hl hn ha
  have triv:LiftS P i g pl pre (fun x=>x=i\/∃ j,j<L.length/\Ss j x) i g pl pre (fun x=>x=i\/∃ j,j<L.length/\Ss j x) [] []:=fun P' Su' Eu' hs _ _=>⟨Su',by simpa using hs,fun x hx=>.inr hx⟩
  by_cases hcom:com (rst c pre.length) pt<pt.size
  ·exact⟨_,i,g,pl,pre,_,_,[],[],[],SeekW.split (r:=((i:Int),g)) h rfl hd hcom,me,hp,hpl,by simp,fun x hx=>hx,by simp,rfl,.inr ⟨k,pt,L,h,.inl ⟨rfl,hcom,rfl⟩⟩,triv,.inl ⟨rfl,rfl,rfl,rfl,rfl,rfl,rfl⟩⟩
  ·have hcom:com (rst c pre.length) pt=pt.size:=by have:=com_le2 (rst c pre.length) pt;omega
   obtain⟨x,hx,hpx⟩:=next_byte hsub hn ha hpl hc hp hcom
   cases hf:z0p L (x.toNat:Int) with
   | none=>exact⟨_,i,g,pl,pre,_,_,[],[],[],SeekW.bare (r:=((i:Int),g)) h rfl hd hcom hx hf,me,hp,hpl,by simp,fun x hx=>hx,by simp,rfl,.inr ⟨k,pt,L,h,.inr ⟨x,rfl,hcom,hx,rfl,hf⟩⟩,triv,.inl ⟨rfl,rfl,rfl,rfl,rfl,rfl,rfl⟩⟩
   | some kd =>
    obtain⟨hb,j,hj⟩:=findK_at hf
    have hjl:=(List.getElem?_eq_some_iff.1 hj).1
    have e:kd.byte=x:=kd_byte hb
    have hks:=hk j kd hj
    obtain⟨s,u,gu,plu,preu,Su,Eu,E1,E2,W1,hs,hsu,hpu,hplu,hE,hin,hway,hdep,hstop,hLS,hor⟩:=ih j kd hj (by rw[e];exact hpx) (fun h=>by cases h) (W++[((i:Int),g)])
    have el:(pre++byt pt++[kd.byte]).length=pre.length+pt.size+1:=by simp[z1b];omega
    rw[el] at hs
    have hni:¬ Su i:=fun hx=>d1 j i hjl (hin i hx) rfl
    have hsplit:=flat_split Es hjl
    have hkok:=hok kd (List.mem_of_getElem? hj)
    have upS:∀ P' Sk' Ek' (Sv:Nat->Prop),Sub P' (ki j) kd.g false (pre++byt pt++[kd.byte]) Sk' Ek'->(∀ x,Sk' x->(Ss j x/\¬ Su x)\/Sv x)->(∀ x,Sv x->Su x\/¬ (x=i\/∃ j,j<L.length/\Ss j x))->P'[i]?=P[i]?->(∀ j' x,j'<L.length->j'≠j->Ss j' x->P'[x]?=P[x]?) ->
     ∃ S',Sub P' i g pl pre S' ((List.range j).flatMap Es++(Ek'++(List.range' (j+1) (L.length - j - 1)).flatMap Es))/\∀ x,S' x->((x=i\/∃ j,j<L.length/\Ss j x)/\¬ Su x)\/Sv x:=by
     intro P' Sk' Ek' Sv hsk h1 h2 hi ho
     have hset:=set_self hj hks rfl
     obtain⟨S',a,b⟩:=Sub.kid (P:=P) (P':=P') (Es:=Es) hk hsub d1 d2 hr hok hl hn ha hj hsk (by rw[hset];exact h.same hi) ho (fun x hx=>by
      rcases h1 x hx with ⟨h3,h4⟩|h3
      ·exact⟨d1 j x hjl h3,fun j' hj' hne h5=>hne (d2 j' j x hj' hjl h5 h3)⟩
      ·rcases h2 x h3 with h4|h4
       ·exact⟨d1 j x hjl (hin x h4),fun j' hj' hne h5=>hne (d2 j' j x hj' hjl h5 (hin x h4))⟩
       ·exact⟨fun e=>h4 (.inl e),fun j' hj' hne h5=>h4 (.inr ⟨j',hj',h5⟩)⟩) (by rw[<- hks];exact hkok)
     refine⟨S',a,fun x hx=>?_⟩
     rcases b x hx with rfl|hx|⟨j',hj',hne,hx⟩
     ·exact .inl ⟨.inl rfl,hni⟩
     ·rcases h1 x hx with ⟨h3,h4⟩|h3
      ·exact .inl ⟨.inr ⟨j,hjl,h3⟩,h4⟩
      ·exact .inr h3
     ·exact .inl ⟨.inr ⟨j',hj',hx⟩,fun h3=>hne (d2 j' j x hj' hjl hx (hin x h3))⟩
    refine⟨s,u,gu,plu,preu,Su,Eu,(List.range j).flatMap Es++E1,E2++(List.range' (j+1) (L.length - j - 1)).flatMap Es,((i:Int),g) :: W1,SeekW.down (r:=((i:Int),g)) h rfl hd hcom hx hf (by rw[hks];exact hs),hsu,hpu,hplu,?_,fun x hx=>.inr ⟨j,hjl,hin x hx⟩,by rw[hway];simp,hdep,hstop,?_,.inr ?_⟩
    ·rw[hsplit,hE];simp
    ·intro P' Su' Eu' hsu' hfr hdis
     obtain⟨Sk',a,b⟩:=hLS P' Su' Eu' hsu' (fun x hx hn=>hfr x (.inr ⟨j,hjl,hx⟩) hn) (fun x hx=>by
      rcases hdis x hx with h3|h3
      ·exact .inl h3
      ·exact .inr fun h4=>h3 (.inr ⟨j,hjl,h4⟩))
     obtain⟨S',a',b'⟩:=upS P' Sk' _ Su' a b hdis (hfr i (.inl rfl) hni) (fun j' x hj' hne hx=>hfr x (.inr ⟨j',hj',hx⟩) (fun h3=>hne (d2 j' j x hj' hjl hx (hin x h3))))
     exact⟨S',by simpa using a',b'⟩
    ·rcases hor with ⟨rfl,rfl,rfl,rfl,rfl,rfl,rfl⟩|⟨p,gp,kp,ptp,Lp,plp,jp,kk,W2,hW,hlp,hjp,hkks,hkkg,hkn,hRp,hkk,hSp,hnp,hl2,hLT⟩
     ·refine⟨i,g,k,pt,L,pl,j,kd,[],rfl,h,hj,hks,rfl,fun m y hm hy=>?_,hr,hkok,.inl rfl,hni,fun e=>(hn e).1,?_⟩
      ·rintro ⟨h3,_⟩
       have hml:=(List.getElem?_eq_some_iff.1 hy).1
       have h4:=hk m y hy
       have h5:ki m=ki j:=by omega
       have h6:=(hsub m y hy).self
       have h7:=(hsub j kd hj).self
       rw[h5] at h6
       have:=d2 m j (ki j) hml hjl h6 h7
       omega
      ·intro P' u' gu' Su' Eu' hsu' hlive hfr hdis hok'
       obtain⟨S',a,b⟩:=Sub.kid (P:=P) (P':=P') (Es:=Es) hk hsub d1 d2 hr hok hl hn ha hj hsu' (by rw[<- turnK_at hr hj];exact hlive) (fun j' x hj' hne hx=>hfr x (.inr ⟨j',hj',hx⟩) (fun h3=>hne (d2 j' j x hj' hjl hx (hin x h3))) (d1 j' x hj' hx)) (fun x hx=>by
        rcases hdis x hx with h4|h4
        ·exact⟨d1 j x hjl (hin x h4),fun j' hj' hne h5=>hne (d2 j' j x hj' hjl h5 (hin x h4))⟩
        ·exact⟨fun e=>h4 (.inl e),fun j' hj' hne h5=>h4 (.inr ⟨j',hj',h5⟩)⟩) hok'
       refine⟨S',by simpa using a,fun x hx=>?_⟩
       rcases b x hx with rfl|hx|⟨j',hj',hne,hx⟩
       ·exact .inl ⟨.inl rfl,hni⟩
       ·exact .inr hx
       ·exact .inl ⟨.inr ⟨j',hj',hx⟩,fun h3=>hne (d2 j' j x hj' hjl hx (hin x h3))⟩
     ·refine⟨p,gp,kp,ptp,Lp,plp,jp,kk,((i:Int),g) :: W2,by rw[hW];simp,hlp,hjp,hkks,hkkg,hkn,hRp,hkk,.inr ⟨j,hjl,hSp⟩,hnp,hl2,?_⟩
      intro P' u' gu' Su' Eu' hsu' hlive hfr hdis hok'
      obtain⟨Sk',a,b⟩:=hLT P' u' gu' Su' Eu' hsu' hlive (fun x hx hn hp=>hfr x (.inr ⟨j,hjl,hx⟩) hn hp) (fun x hx=>by
       rcases hdis x hx with h3|h3
       ·exact .inl h3
       ·exact .inr fun h4=>h3 (.inr ⟨j,hjl,h4⟩)) hok'
      have hip:i≠p:=fun e'=>d1 j p hjl hSp e'.symm
      obtain⟨S',a',b'⟩:=upS P' Sk' _ Su' a b hdis (hfr i (.inl rfl) hni hip) (fun j' x hj' hne hx=>hfr x (.inr ⟨j',hj',hx⟩) (fun h3=>hne (d2 j' j x hj' hjl hx (hin x h3))) (fun e'=>by subst e';exact hne (d2 j' j x hj' hjl hx hSp)))
      exact⟨S',by simpa using a',b'⟩
theorem insK_get {k:Kd} (m:Nat):(insK L k)[m]?=if m<idx L k.b then L[m]? else if m=idx L k.b then some k else L[m - 1]?:=by
 have hi:=(idx_spec L k.b).1
 rw[insK_eq]
 by_cases h1:m<idx L k.b
 ·rw[if_pos h1,List.getElem?_append_left (by simp;omega),List.getElem?_take_of_lt h1]
 ·rw[if_neg h1,List.getElem?_append_right (by simp;omega)]
  have e:(L.take (idx L k.b)).length=idx L k.b:=by simp;omega
  rw[e]
  by_cases h2:m=idx L k.b
  ·rw[if_pos h2,h2];simp
  ·rw[if_neg h2]
   have h3:m - idx L k.b=(m - 1 - idx L k.b)+1:=by omega
   rw[h3,List.getElem?_cons_succ,List.getElem?_drop]
   congr 1
   omega
def ins1 {α:Type} (f:Nat->α) (p:Nat) (a:α) (m:Nat):α:=if m<p then f m else if m=p then a else f (m - 1)
theorem range_up:∀ (n p:Nat),List.range' (p+1) n=(List.range' p n).map (·+1)
 | 0,_=>rfl
 | n+1,p=>by rw[List.range'_succ,List.range'_succ,List.map_cons,range_up n (p+1)]
theorem flat_ins (Es:Nat->Ents) (En:Ents) {p n:Nat} (hp:p<=n):((List.range (n+1)).flatMap (ins1 Es p En)).Perm (En++(List.range n).flatMap Es):=by
 have e1:=flat_split (ins1 Es p En) (show p<n+1 by omega)
 have h1:(List.range p).flatMap (ins1 Es p En)=(List.range p).flatMap Es:=flatMap_eq fun m hm=>by
  have:=List.mem_range.1 hm
  simp[ins1,this]
 have h2:ins1 Es p En p=En:=by simp[ins1]
 have h3:(List.range' (p+1) (n+1 - p - 1)).flatMap (ins1 Es p En)=(List.range' p (n - p)).flatMap Es:=by
  have e:List.range' (p+1) (n+1 - p - 1)=(List.range' p (n - p)).map (·+1):=by
   rw[show n+1 - p - 1=n - p by omega]
   exact range_up _ _
  rw[e,List.flatMap_map]
  refine flatMap_eq fun m hm=>?_
  have:=(List.mem_range'_1.1 hm).1
  unfold ins1
  rw[if_neg (by omega),if_neg (by omega)]
  simp
 have h4:(List.range n).flatMap Es=(List.range p).flatMap Es++(List.range' p (n - p)).flatMap Es:=by
  rw[List.range_eq_range',List.range_eq_range']
  conv=>lhs;rw[show n=p+(n - p) by omega]
  rw[<- List.range'_append_1]
  simp
 rw[e1,h1,h2,h3,h4]
 rw[<- List.append_assoc,<- List.append_assoc]
 exact (List.perm_append_comm).append_right _
section
variable {P P':List (Cel PNd)} {i u:Nat} {g gu:Int} {k k':Nat} {pt:ByteArray} {L:List Kd} {pl:Bool} {pre:List UInt8} {ki:Nat->Nat} {Ss:Nat->Nat->Prop} {Es:Nat->Ents}
theorem Sub.more (hk:∀ j kd,L[j]?=some kd->kd.s=(ki j:Int)) (hsub:∀ j kd,L[j]?=some kd->Sub P (ki j) kd.g false (pre++byt pt++[kd.byte]) (Ss j) (Es j)) (d2:∀ j j' x,j<L.length->j'<L.length->Ss j x->Ss j' x->j=j')
 (hr:Rise L) (hok:∀ kd∈L,kd.ok) {n:Nat} {gn x:Int} {Sn:Nat->Prop} {En:Ents} (hs:Sub P' n gn false (pre++byt pt++[(⟨x,n,gn⟩:Kd).byte]) Sn En) (h':z0l P' u gu u ⟨.z0k k' pt (insK L ⟨x,n,gn⟩),pl,false⟩) (hf:z0p L x=none)
 (hfr:∀ j y,j<L.length->Ss j y->P'[y]?=P[y]?) (d1:∀ j y,j<L.length->Ss j y->y≠u) (hd:∀ y,Sn y->y≠u/\∀ j,j<L.length->¬ Ss j y) (hokn:(⟨x,n,gn⟩:Kd).ok) (hl:L.length+1<=256) (hn:pl=false->2<=L.length+1/\k'=kindOf (L.length+1)/\pt.size<=34) (ha:pl=true->k'=5/\pt=⟨#[]⟩) :
 ∃ S' E',Sub P' u gu pl pre S' E'/\E'.Perm (En++(List.range L.length).flatMap Es)/\∀ y,S' y->y=u\/Sn y\/∃ j,j<L.length/\Ss j y:=by
 have hi:=(idx_spec L x).1
 have hlen:(insK L ⟨x,n,gn⟩).length=L.length+1:=z2y _ _
 generalize hp:idx L x=p at *
 have get:∀ m kd,(insK L ⟨x,n,gn⟩)[m]?=some kd->(m<p/\L[m]?=some kd)\/(m=p/\kd=⟨x,n,gn⟩)\/(p<m/\L[m - 1]?=some kd):=by
  intro m kd h
  rw[insK_get,hp] at h
  by_cases h1:m<p
  ·rw[if_pos h1] at h;exact .inl ⟨h1,h⟩
  ·rw[if_neg h1] at h
   by_cases h2:m=p
   ·rw[if_pos h2] at h;exact .inr (.inl ⟨h2,(Option.some.inj h).symm⟩)
   ·rw[if_neg h2] at h;exact .inr (.inr ⟨by omega,h⟩)
 have ix:∀ {α:Type} (f:Nat->α) (a:α) (m:Nat),m<L.length+1->(m<p/\ins1 f p a m=f m)\/(m=p/\ins1 f p a m=a)\/(p<m/\m - 1<L.length/\ins1 f p a m=f (m - 1)):=by
  intro α f a m hm
  unfold ins1
  by_cases h1:m<p
  ·exact .inl ⟨h1,if_pos h1⟩
  ·by_cases h2:m=p
   ·exact .inr (.inl ⟨h2,by rw[if_neg h1,if_pos h2]⟩)
   ·exact .inr (.inr ⟨by omega,by omega,by rw[if_neg h1,if_neg h2]⟩)
 have node:=Sub.node (P:=P') (pre:=pre) (ki:=ins1 ki p n) (Ss:=ins1 Ss p Sn) (Es:=ins1 Es p En) h'
  (fun m kd hm=>by
   have hml:=(List.getElem?_eq_some_iff.1 hm).1
   rw[hlen] at hml
   rcases get m kd hm with ⟨h1,h2⟩|⟨rfl,rfl⟩|⟨h1,h2⟩
   ·unfold ins1;rw[if_pos h1];exact hk m kd h2
   ·unfold ins1;simp
   ·unfold ins1;rw[if_neg (by omega),if_neg (by omega)];exact hk _ kd h2)
  (fun m kd hm=>by
   rcases get m kd hm with ⟨h1,h2⟩|⟨rfl,rfl⟩|⟨h1,h2⟩
   ·unfold ins1;rw[if_pos h1,if_pos h1,if_pos h1]
    exact (hsub m kd h2).frame (fun y hy=>hfr m y (List.getElem?_eq_some_iff.1 h2).1 hy)
   ·unfold ins1;simp only[Nat.lt_irrefl,if_false,if_true];exact hs
   ·unfold ins1
    simp only[if_neg (show ¬ m<p by omega),if_neg (show ¬ m=p by omega)]
    exact (hsub _ kd h2).frame (fun y hy=>hfr _ y (List.getElem?_eq_some_iff.1 h2).1 hy))
  (fun m y hm hy=>by
   rw[hlen] at hm
   rcases ix Ss Sn m hm with ⟨h1,e⟩|⟨h1,e⟩|⟨h1,h2,e⟩<;>rw[e] at hy
   ·exact d1 m y (by omega) hy
   ·exact (hd y hy).1
   ·exact d1 _ y h2 hy)
  (fun m m' y hm hm' hy hy'=>by
   rw[hlen] at hm hm'
   rcases ix Ss Sn m hm with ⟨h1,e⟩|⟨h1,e⟩|⟨h1,h2,e⟩<;>rw[e] at hy<;>rcases ix Ss Sn m' hm' with ⟨h1',e'⟩|⟨h1',e'⟩|⟨h1',h2',e'⟩<;>rw[e'] at hy'
   ·exact d2 m m' y (by omega) (by omega) hy hy'
   ·exact absurd hy ((hd y hy').2 m (by omega))
   ·have:=d2 m (m' - 1) y (by omega) h2' hy hy';omega
   ·exact absurd hy' ((hd y hy).2 m' (by omega))
   ·omega
   ·exact absurd hy' ((hd y hy).2 _ h2')
   ·have:=d2 (m - 1) m' y h2 (by omega) hy hy';omega
   ·exact absurd hy ((hd y hy').2 _ h2)
   ·have:=d2 (m - 1) (m' - 1) y h2 h2' hy hy';omega)
  (insK_rise hr (k:=⟨x,n,gn⟩) hf) (fun kd hkd=>by
   obtain⟨m,hm,e⟩:=List.getElem_of_mem hkd
   rcases get m kd (by rw[List.getElem?_eq_getElem hm,e]) with ⟨_,h2⟩|⟨_,rfl⟩|⟨_,h2⟩
   ·exact hok kd (List.mem_of_getElem? h2)
   ·exact hokn
   ·exact hok kd (List.mem_of_getElem? h2)) (by rw[hlen];exact hl) (by rw[hlen];exact hn) ha
 refine⟨_,_,node,?_,fun y hy=>?_⟩
 ·rw[hlen];exact flat_ins Es En hi
 ·rcases hy with rfl|⟨m,hm,hy⟩
  ·exact .inl rfl
  ·rw[hlen] at hm
   rcases ix Ss Sn m hm with ⟨h1,e⟩|⟨h1,e⟩|⟨h1,h2,e⟩<;>rw[e] at hy
   ·exact .inr (.inr ⟨m,by omega,hy⟩)
   ·exact .inr (.inl hy)
   ·exact .inr (.inr ⟨_,h2,hy⟩)
end
end Go.Burg
namespace Go
section
variable {P:Program} {ops:Array Oper} {o:Oper} {a:Act}
theorem wpList_field_run {rest:List Oper} {Q:Exit->Act->World->Prop} {w:World} (hg:o.guard=none) (x:Operand) (T:TypeId) (i:Nat) (hop:o.op=.field T x i) (v v':Value)
 (hx:a.eval x=v) (hrun:(Instr.field T v i).run P w=.ok v' w) (hK:wpList P ops Q rest (a.put o.dst v') w):wpList P ops Q (o :: rest) a w:=by
 refine wpList_plain hg fun K' hK'=>?_
 unfold Oper.wp
 simp[execOp,hop,hx,hrun,Result.andThen]
 exact hK' _ _ hK
end
end Go
namespace Go.Proofs.YtgdmfledhhoedaaGreatDoor.T
set_option maxRecDepth 8000
open Go.ChangeShapes Go.WideShapes Go.ChangeAt Go.RowKit Go.Burg
open Go.Burg.Lk
end Go.Proofs.YtgdmfledhhoedaaGreatDoor.T
namespace Go.Burg
open Go Go.RowKit
structure RJ (S:Nat->Prop) (P0 P1:World->Prop) (F:World->Value->Prop) (W0:World) (T:TypeId) (z:Array Value) (o1:Value->Array Value) (hasL:Bool) (iL iT iA iS:Nat) (fx fd:List Nat) (tab:Nat->Value) (td:Nat->Value->Value) (D:Nat->Bool) (xs:Nat->Value) (w:World):Prop where
 m:Mod S W0 w
 p:cond (D iT) (P1 w) (P0 w)
 l:D iL=true->F w (xs iL)
 a:D iA=true->∃ u,W0.heap.size<=u/\xs iA=.pointer (some ⟨u,0,none⟩)/\w.heap[u]?=some (.cells (cond (D iS) (o1 (xs iL)) z) T (0,0))
 v:∀ j,D j=true->j∈fx->xs j=tab j
 e:∀ j,D j=true->j∈fd->D iL=true/\xs j=td j (xs iL)
 s:D iS=true->D iA=true/\(hasL=true->D iL=true)
structure RJOk (S:Nat->Prop) (P0 P1:World->Prop) (F:World->Value->Prop) (W0:World) (T:TypeId) (z:Array Value):Prop where
 b0:∀ w w',P0 w->Below w.heap.size w w'->P0 w'
 b1:∀ w w',P1 w->Below w.heap.size w w'->P1 w'
 bf:∀ w w' v,F w v->Below w.heap.size w w'->F w' v
 s0:∀ w w' u,W0.heap.size<=u->w.heap[u]?=some (.cells z T (0,0))->Mod (·=u) w w'->P0 w->P0 w'
 s1:∀ w w' u,W0.heap.size<=u->w.heap[u]?=some (.cells z T (0,0))->Mod (·=u) w w'->P1 w->P1 w'
 sf:∀ w w' u v,W0.heap.size<=u->w.heap[u]?=some (.cells z T (0,0))->Mod (·=u) w w'->F w v->F w' v
 tf:∀ w w' v,Mod S w w'->F w v->F w' v
 lt:∀ k,S k->k<W0.heap.size
section
variable {S:Nat->Prop} {P0 P1:World->Prop} {F:World->Value->Prop} {W0 w w':World} {T:TypeId} {z:Array Value} {o1:Value->Array Value} {hasL:Bool} {iL iT iA iS:Nat} {fx fd:List Nat} {tab:Nat->Value} {td:Nat->Value->Value} {D:Nat->Bool} {xs:Nat->Value}
theorem RJ.start (h:P0 W0.drew):RJ S P0 P1 F W0 T z o1 hasL iL iT iA iS fx fd tab td (fun _=>false) (fun _=>undef) W0.drew :=
 ⟨(Mod.refl _ _).drew,h,fun h=>(by cases h),fun h=>(by cases h),fun j h=>(by cases h),fun j h=>(by cases h),fun h=>(by cases h)⟩
theorem RJ.calm (hk:RJOk S P0 P1 F W0 T z) (h:RJ S P0 P1 F W0 T z o1 hasL iL iT iA iS fx fd tab td D xs w) {i:Nat} {u:Value} (hb:Below w.heap.size w w') (h1:i≠iL:=by decide) (h2:i≠iT:=by decide) (h3:i≠iA:=by decide) (h4:i≠iS:=by decide) (h5:i ∉ fd:=by decide) (hu:i∈fx->u=tab i:=by intro h;cases h):RJ S P0 P1 F W0 T z o1 hasL iL iT iA iS fx fd tab td (fun j=>D j || j == i) (fun j=>if j=i then u else xs j) w':=by
 have n1:¬ iL=i:=fun e=>h1 e.symm
 have n2:¬ iT=i:=fun e=>h2 e.symm
 have n3:¬ iA=i:=fun e=>h3 e.symm
 have n4:¬ iS=i:=fun e=>h4 e.symm
 have e1:(D iL || iL == i)=D iL:=by simp[n1]
 have e2:(D iT || iT == i)=D iT:=by simp[n2]
 have e3:(D iA || iA == i)=D iA:=by simp[n3]
 have e4:(D iS || iS == i)=D iS:=by simp[n4]
 refine⟨h.m.trans (z1e hb) (fun _ _ e=>e),?_,fun e=>?_,fun e=>?_,fun j hj hr=>?_,fun j hj hr=>?_,fun e=>?_⟩
 ·simp only[e2]
  have:=h.p
  cases hd:D iT<;>rw[hd] at this
  ·exact hk.b0 _ _ this hb
  ·exact hk.b1 _ _ this hb
 ·simp only[if_neg n1]
  exact hk.bf _ _ _ (h.l (by rwa [e1] at e)) hb
 ·obtain⟨b,q1,q2,q3⟩:=h.a (by rwa [e3] at e)
  simp only[e4,if_neg n1,if_neg n3]
  exact⟨b,q1,q2,(hb.block b (lt_of_block q3)).trans q3⟩
 ·by_cases e:j=i
  ·subst e;simp only[if_pos];exact hu hr
  ·simp only[if_neg e];exact h.v j (by simpa[e] using hj) hr
 ·have e:¬ j=i:=fun e=>h5 (e ▸ hr)
  obtain⟨a,b⟩:=h.e j (by simpa[e] using hj) hr
  simp only[if_neg e,if_neg n1,e1]
  exact⟨a,b⟩
 ·rw[e1,e3];exact h.s (by rwa [e4] at e)
theorem RJ.dep (h:RJ S P0 P1 F W0 T z o1 hasL iL iT iA iS fx fd tab td D xs w) {i:Nat} {u:Value} (hL:D iL=true) (hu:u=td i (xs iL)) (h1:i≠iL:=by decide) (h2:i≠iT:=by decide) (h3:i≠iA:=by decide) (h4:i≠iS:=by decide) (h5:i ∉ fx:=by decide):RJ S P0 P1 F W0 T z o1 hasL iL iT iA iS fx fd tab td (fun j=>D j || j == i) (fun j=>if j=i then u else xs j) w:=by
 have n1:¬ iL=i:=fun e=>h1 e.symm
 have n2:¬ iT=i:=fun e=>h2 e.symm
 have n3:¬ iA=i:=fun e=>h3 e.symm
 have n4:¬ iS=i:=fun e=>h4 e.symm
 have e1:(D iL || iL == i)=D iL:=by simp[n1]
 have e2:(D iT || iT == i)=D iT:=by simp[n2]
 have e3:(D iA || iA == i)=D iA:=by simp[n3]
 have e4:(D iS || iS == i)=D iS:=by simp[n4]
 refine⟨h.m,by simp only[e2];exact h.p,fun e=>?_,fun e=>?_,fun j hj hr=>?_,fun j hj hr=>?_,fun e=>?_⟩
 ·simp only[if_neg n1];exact h.l hL
 ·obtain⟨b,q1,q2,q3⟩:=h.a (by rwa [e3] at e)
  simp only[e4,if_neg n1,if_neg n3]
  exact⟨b,q1,q2,q3⟩
 ·have e:¬ j=i:=fun e=>h5 (e ▸ hr)
  simp only[if_neg e];exact h.v j (by simpa[e] using hj) hr
 ·by_cases e:j=i
  ·subst e;simp only[if_pos,if_neg n1,e1];exact⟨hL,hu⟩
  ·obtain⟨a,b⟩:=h.e j (by simpa[e] using hj) hr
   simp only[if_neg e,if_neg n1,e1]
   exact⟨a,b⟩
 ·rw[e1,e3];exact h.s (by rwa [e4] at e)
theorem RJ.call (hk:RJOk S P0 P1 F W0 T z) (h:RJ S P0 P1 F W0 T z o1 hasL iL iT iA iS fx fd tab td D xs w) (hh:hasL=true\/∀ a b,o1 a=o1 b) (hD:D iL=false) {u:Value} (hu:F w' u) (hb:Below w.heap.size w w') (h2:iL≠iT:=by decide) (h3:iL≠iA:=by decide) (h4:iL≠iS:=by decide) (hf:iL ∉ fx:=by decide) (hd:iL ∉ fd:=by decide):RJ S P0 P1 F W0 T z o1 hasL iL iT iA iS fx fd tab td (fun j=>D j || j == iL) (fun j=>if j=iL then u else xs j) w':=by
 have n2:¬ iT=iL:=fun e=>h2 e.symm
 have n3:¬ iA=iL:=fun e=>h3 e.symm
 have n4:¬ iS=iL:=fun e=>h4 e.symm
 have e2:(D iT || iT == iL)=D iT:=by simp[n2]
 have e3:(D iA || iA == iL)=D iA:=by simp[n3]
 have e4:(D iS || iS == iL)=D iS:=by simp[n4]
 refine⟨h.m.trans (z1e hb) (fun _ _ e=>e),?_,fun e=>?_,fun e=>?_,fun j hj hr=>?_,fun j hj hr=>?_,fun e=>?_⟩
 ·simp only[e2]
  have:=h.p
  cases hd:D iT<;>rw[hd] at this
  ·exact hk.b0 _ _ this hb
  ·exact hk.b1 _ _ this hb
 ·simp only[if_pos];exact hu
 ·obtain⟨b,q1,q2,q3⟩:=h.a (by rwa [e3] at e)
  have ec:cond (D iS) (o1 u) z=cond (D iS) (o1 (xs iL)) z:=by
   cases hs:D iS
   ·rfl
   ·rcases hh with hh|hh
    ·rw[(h.s hs).2 hh] at hD;cases hD
    ·exact hh _ _
  simp only[e4,if_pos,if_neg n3]
  rw[ec]
  exact⟨b,q1,q2,(hb.block b (lt_of_block q3)).trans q3⟩
 ·have e:¬ j=iL:=fun e=>hf (e ▸ hr)
  simp only[if_neg e];exact h.v j (by simpa[e] using hj) hr
 ·have e:¬ j=iL:=fun e=>hd (e ▸ hr)
  have:=(h.e j (by simpa[e] using hj) hr).1
  rw[hD] at this;cases this
 ·rw[e4] at e
  rw[e3]
  exact⟨(h.s e).1,fun _=>by simp⟩
theorem RJ.turn (hk:RJOk S P0 P1 F W0 T z) (h:RJ S P0 P1 F W0 T z o1 hasL iL iT iA iS fx fd tab td D xs w) {u:Value} (hp:P1 w') (hm:Mod S w w') (h1:iT≠iL:=by decide) (h3:iT≠iA:=by decide) (h4:iT≠iS:=by decide) (h5:iT ∉ fd:=by decide) (hu:iT∈fx->u=tab iT:=by intro h;cases h):RJ S P0 P1 F W0 T z o1 hasL iL iT iA iS fx fd tab td (fun j=>D j || j == iT) (fun j=>if j=iT then u else xs j) w':=by
 have n1:¬ iL=iT:=fun e=>h1 e.symm
 have n3:¬ iA=iT:=fun e=>h3 e.symm
 have n4:¬ iS=iT:=fun e=>h4 e.symm
 have e1:(D iL || iL == iT)=D iL:=by simp[n1]
 have e3:(D iA || iA == iT)=D iA:=by simp[n3]
 have e4:(D iS || iS == iT)=D iS:=by simp[n4]
 refine⟨h.m.trans hm (fun _ _ e=>e),by simp;exact hp,fun e=>?_,fun e=>?_,fun j hj hr=>?_,fun j hj hr=>?_,fun e=>?_⟩
 ·simp only[if_neg n1]
  exact hk.tf _ _ _ hm (h.l (by rwa [e1] at e))
 ·obtain⟨b,q1,q2,q3⟩:=h.a (by rwa [e3] at e)
  simp only[e4,if_neg n1,if_neg n3]
  exact⟨b,q1,q2,(hm.block b (lt_of_block q3) (fun hs=>by have:=hk.lt b hs;omega)).trans q3⟩
 ·by_cases e:j=iT
  ·subst e;simp only[if_pos];exact hu hr
  ·simp only[if_neg e];exact h.v j (by simpa[e] using hj) hr
 ·have e:¬ j=iT:=fun e=>h5 (e ▸ hr)
  obtain⟨a,b⟩:=h.e j (by simpa[e] using hj) hr
  simp only[if_neg e,if_neg n1,e1]
  exact⟨a,b⟩
 ·rw[e1,e3];exact h.s (by rwa [e4] at e)
theorem RJ.alloc (hk:RJOk S P0 P1 F W0 T z) (h:RJ S P0 P1 F W0 T z o1 hasL iL iT iA iS fx fd tab td D xs w) (hD:D iA=false) (h1:iA≠iL:=by decide) (h2:iA≠iT:=by decide) (h4:iA≠iS:=by decide) (h5:iA ∉ fd:=by decide) (hf:iA ∉ fx:=by decide):RJ S P0 P1 F W0 T z o1 hasL iL iT iA iS fx fd tab td (fun j=>D j || j == iA) (fun j=>if j=iA then .pointer (some ⟨w.heap.size,0,none⟩) else xs j) (w.alloc (.cells z T (0,0))):=by
 have hb:Below w.heap.size w (w.alloc (.cells z T (0,0))):=(Below.refl _ _).alloc (Nat.le_refl _) _
 have n1:¬ iL=iA:=fun e=>h1 e.symm
 have n2:¬ iT=iA:=fun e=>h2 e.symm
 have n4:¬ iS=iA:=fun e=>h4 e.symm
 have e1:(D iL || iL == iA)=D iL:=by simp[n1]
 have e2:(D iT || iT == iA)=D iT:=by simp[n2]
 have e4:(D iS || iS == iA)=D iS:=by simp[n4]
 have hSf:D iS=false:=by
  cases e:D iS
  ·rfl
  ·rw[(h.s e).1] at hD;cases hD
 refine⟨h.m.trans (z1e hb) (fun _ _ e=>e),?_,fun e=>?_,fun e=>?_,fun j hj hr=>?_,fun j hj hr=>?_,fun e=>?_⟩
 ·simp only[e2]
  have:=h.p
  cases hd:D iT<;>rw[hd] at this
  ·exact hk.b0 _ _ this hb
  ·exact hk.b1 _ _ this hb
 ·simp only[if_neg n1]
  exact hk.bf _ _ _ (h.l (by rwa [e1] at e)) hb
 ·refine⟨w.heap.size,h.m.size,by simp,?_⟩
  have e5:(D iS || iS == iA)=false:=by rw[e4,hSf]
  simp only[e5,cond_false]
  exact z0a _ _
 ·have e:¬ j=iA:=fun e=>hf (e ▸ hr)
  simp only[if_neg e];exact h.v j (by simpa[e] using hj) hr
 ·have e:¬ j=iA:=fun e=>h5 (e ▸ hr)
  obtain⟨a,b⟩:=h.e j (by simpa[e] using hj) hr
  simp only[if_neg e,if_neg n1,e1]
  exact⟨a,b⟩
 ·rw[e4,hSf] at e;cases e
theorem RJ.store (hk:RJOk S P0 P1 F W0 T z) (h:RJ S P0 P1 F W0 T z o1 hasL iL iT iA iS fx fd tab td D xs w) (hD:D iS=false) (hL:hasL=true->D iL=true) {b:Nat} (hA:D iA=true) (hx:xs iA=.pointer (some ⟨b,0,none⟩)) {u:Value} (hm:Mod (·=b) w w') (hc:w'.heap[b]?=some (.cells (o1 (xs iL)) T (0,0))) (h1:iS≠iL:=by decide) (h2:iS≠iT:=by decide) (h3:iS≠iA:=by decide) (h5:iS ∉ fd:=by decide) (hf:iS ∉ fx:=by decide):RJ S P0 P1 F W0 T z o1 hasL iL iT iA iS fx fd tab td (fun j=>D j || j == iS) (fun j=>if j=iS then u else xs j) w':=by
 obtain⟨b',q1,q2,q3⟩:=h.a hA
 obtain rfl:b=b':=by rw[hx] at q2;injection q2 with q2;injection q2 with q2;injection q2
 rw[hD] at q3
 simp only[cond_false] at q3
 have n1:¬ iL=iS:=fun e=>h1 e.symm
 have n2:¬ iT=iS:=fun e=>h2 e.symm
 have n3:¬ iA=iS:=fun e=>h3 e.symm
 have e1:(D iL || iL == iS)=D iL:=by simp[n1]
 have e2:(D iT || iT == iS)=D iT:=by simp[n2]
 have e3:(D iA || iA == iS)=D iA:=by simp[n3]
 refine⟨h.m.trans hm (fun i hi e=>by have:i=b:=e;omega),?_,fun e=>?_,fun e=>?_,fun j hj hr=>?_,fun j hj hr=>?_,fun e=>?_⟩
 ·simp only[e2]
  have:=h.p
  cases hd:D iT<;>rw[hd] at this
  ·exact hk.s0 _ _ _ q1 q3 hm this
  ·exact hk.s1 _ _ _ q1 q3 hm this
 ·simp only[if_neg n1]
  exact hk.sf _ _ _ _ q1 q3 hm (h.l (by rwa [e1] at e))
 ·simp only[if_neg n1,if_neg n3,beq_self_eq_true,Bool.or_true,cond_true]
  exact⟨b,q1,q2,hc⟩
 ·have e:¬ j=iS:=fun e=>hf (e ▸ hr)
  simp only[if_neg e];exact h.v j (by simpa[e] using hj) hr
 ·have e:¬ j=iS:=fun e=>h5 (e ▸ hr)
  obtain⟨a,b⟩:=h.e j (by simpa[e] using hj) hr
  simp only[if_neg e,if_neg n1,e1]
  exact⟨a,b⟩
 ·rw[e1,e3];exact⟨hA,hL⟩
end
end Go.Burg
namespace Go.Proofs.YtgdmfledhhoedaaGreatDoor.T
set_option maxRecDepth 8000
open Go.ChangeShapes Go.WideShapes Go.ChangeAt Go.RowKit Go.Burg
open Go.Burg.Lk
theorem forkK_len (x y:Kd):(z1p x y).length=2:=by unfold z1p;split<;>rfl
theorem forkK_may (x y:Kd) (p:ByteArray):O.MayB 2 (z1p x y).length p:=by rw[forkK_len];exact .inl (by decide)
theorem set2_mod {T:TypeId} {w:World} {c:Nat} {a b v v':Value} (h:w.heap[c]?=some (.cells #[a,b] T (0,0))) :
 ((w.setCell ⟨c,0,none⟩ v).setCell ⟨c,1,none⟩ v').heap[c]?=some (.cells #[v,v'] T (0,0))/\Mod (·=c) w ((w.setCell ⟨c,0,none⟩ v).setCell ⟨c,1,none⟩ v') :=
 ⟨O.set2_at h,Mod.setCell (S:=(·=c)) (p:=⟨c,1,none⟩) (Mod.setCell (S:=(·=c)) (p:=⟨c,0,none⟩) (Mod.refl _ w) (.inl rfl) v) (.inl rfl) v'⟩
structure KidJ (w0:World) (t sb sg kb km:Nat) (P:List (Cel PNd)) (L:List (RefK × Wd)) (tk:Int) (w:World):Prop where
 m:Mod (·=sg) w0 w
 t:z0s w t sb sg kb km P L tk
theorem KidJ.keep {w0 w w':World} {t sb sg kb km:Nat} {P:List (Cel PNd)} {L:List (RefK × Wd)} {tk:Int} (h:KidJ w0 t sb sg kb km P L tk w) (hb:Below w.heap.size w w'):KidJ w0 t sb sg kb km P L tk w' :=
 ⟨h.m.trans (z1e hb) (fun _ _ e=>e),h.t.keep hb⟩
set_option maxRecDepth 20000 in
set_option maxHeartbeats 8000000 in
theorem tfork_leaf {t sb sg kb km ir iu j jj k b g wc:Nat} {P:List (Cel PNd)} {L:List (RefK × Wd)} {tk:Int} {c cd vl pt:ByteArray} {s:SpotP} {r u0 lf:Int × Int} {Lk:List Kd} {pl di plr dir:Bool} {pj:Cel PNd} {kk:Kd} {x y:UInt8} (w:World) (h:z0s w t sb sg kb km P L tk) (hr:RoomsAt w) (h0:¬ TOwn sg km 0)
 (hs:SpotAt w b g wc s) (hw:s.what=4) (hnb:¬ TOwn sg km b/\¬ TOwn sg km g) (hc:c.size<=1000) (hrl:s.way[s.way.length - 1]?=some r) (h2:2<=s.way.length) (hul:s.way[s.way.length - 1 - 1]?=some u0) (hqr:z0l P r.1 r.2 ir ⟨.leaf cd vl,plr,dir⟩) (hqu:z0l P u0.1 u0.2 iu ⟨.z0k k pt Lk,pl,di⟩)
 (hF:z2s P (j:Int)) (hj:P[j]?=some pj) (hjr:pj.room=true) (hju:j≠iu) (rr:RefK) (hr1:rr.1.1=j) (hr2:rr.1.2=pj.gen+1) (hd:s.depth<=c.size) (hx:(byt (rst c s.depth))[s.at_]?=some x) (hy:(byt cd)[s.depth+s.at_]?=some y) (hcd:cd.size<=1000) (hxy:x≠y) (hat:s.at_<=34)
 (hkr:(⟨y.toNat,r.1,r.2⟩:Kd).ok) (hkl:(⟨x.toNat,lf.1,lf.2⟩:Kd).ok) (hkj:Lk[jj]?=some kk) (hkf:z0p Lk kk.b=some kk) (hks:kk.s=r.1) (hkg:kk.g=r.2) (hkn:∀ i k,i<jj->Lk[i]?=some k->¬ (k.s=r.1/\k.g=r.2)) (hok:(⟨kk.b,j,pj.gen+1⟩:Kd).ok) :
 Calls Tryz.prog 35 #[.pointer (some ⟨t,0,none⟩),.pointer (some ⟨b,0,none⟩),.string c,.agg #[.int .i64 lf.1,.int .u32 lf.2]] w fun e w'=>e=.returned (.tuple #[]) /\
  z0s w' t sb sg kb km ((P.set j ⟨true,⟨.z0k 2 ((rst c s.depth).extract 0 s.at_) (z1p ⟨y.toNat,r.1,r.2⟩ ⟨x.toNat,lf.1,lf.2⟩),false,false⟩,pj.gen+1⟩).set iu ⟨true,⟨.z0k k pt (z1t Lk kk.b j (pj.gen+1)),pl,di⟩,u0.2⟩) (K.addL L rr).2 tk/\Mod (TOwn sg km) w w':=by
 have b0:=z0a w (.cells #[.int .i64 lf.1,.int .u32 lf.2] 36 (0,0))
 have hB:Below w.heap.size w (w.alloc (.cells #[.int .i64 lf.1,.int .u32 lf.2] 36 (0,0))):=(Below.refl _ _).alloc (Nat.le_refl _) _
 have HUP:=hid (up_at (k:=0) (hs.keep hB) (by omega) (by simpa using hrl))
 have HH:=hid h
 obtain⟨l,hTA,hRE,hLx⟩:=h.leaf hqr
 have HTA:=hid hTA
 have HRE:=hid hRE
 have HRM:=hid hr
 have HSP:=hid (hs.keep hB)
 have HLT:=hid h.lt
 have hbg:b<w.heap.size/\g<w.heap.size:=⟨lt_of_block hs.h,hs.glt⟩
 have HBG:=hid hbg
 have HUL:=hid hul
 have HX:=hid hx
 have HY:=hid hy
 have HWH:=hid hw
 clear h hr hs hbg hul hrl hx hy hw hTA hRE
 go_enter Tryz.func35,Tryz.ntmps35
 go_wp2_with (go_at_call 31;refine HUP.out.mono ?_;rintro e w1 ⟨rfl,hb1⟩;go_loud (have r1:=z0a w1 (.cells #[.int .i64 r.1,.int .u32 r.2] 36 (0,0));have hbr:Below w1.heap.size w1 (w1.alloc (.cells #[.int .i64 r.1,.int .u32 r.2] 36 (0,0))):=(Below.refl _ _).alloc (Nat.le_refl _) _;have hb:=hb1.trans (hbr.mono hb1.size);have HS1:=hid (HSP.out.keep hb);have HB1:=hid (hB.trans (hb.mono hB.size));have R1:=hid r1;have hlb1:w.heap.size<=w1.heap.size:=(by have:=hb1.size;simp at this;omega);have B1:=hid ((hb.block _ (lt_of_block b0)).trans b0);clear hb1 r1 hbr hb))
 generalize hWX:w1.alloc (.cells #[.int .i64 r.1,.int .u32 r.2] 36 (0,0))=W at *
 have HRB:Hid (t<w1.heap.size/\sg<w1.heap.size/\km<w1.heap.size/\sg<w.heap.size/\km<w.heap.size):=hid (by have:=HLT.out;have:=HB1.out.size;have hs9:=lt_of_block R1.out;have hz:w.heap.size<=w1.heap.size:=hlb1;omega)
 generalize w1.heap.size=rb at *
 generalize hlb:w.heap.size=lb at *
 clear hWX HUP HSP b0
 have hTA:=HTA.out.keep (hlb ▸ HB1.out)
 have HTW:=hid hTA
 have HPN:Hid (∀ w1,Below W.heap.size W w1->Calls Tryz.prog 32 #[.pointer (some ⟨t,0,none⟩),.agg #[.int .i64 r.1,.int .u32 r.2]] w1 fun e w'=>e=.returned (.agg #[.int .i64 1,.string cd,.string vl,.string ⟨#[]⟩,.slice none 0 0,.slice none 0 0])/\Below w1.heap.size w1 w'):=hid (fun w1 hw1=>node_at r.1 r.2 w1 (HTW.out.keep hw1) hLx)
 have n0:=cell_of R1.out 0
 have n1:=cell_of R1.out 1
 have t0:=cell_of hTA.ht 0
 have l0:=lt_of_block R1.out
 have l1:=lt_of_block hTA.ht
 clear hTA hLx
 go_region_with (go_at_call 32;refine (HPN.out _ (by (repeat (first|exact Below.refl _ _|assumption|with_reducible refine Below.drew ?_|with_reducible refine below_drewN ?_|with_reducible refine Below.setCell ?_ (by first|(simp;done)|(simp;omega)) _|with_reducible refine Below.alloc ?_ (by first|exact Nat.le_refl _|(simp;done)|(simp;omega)) _)))).mono ?_;rintro e w2 ⟨rfl,hw2⟩;(try (have z:=(hw2.block W.heap.size (by simp)).trans (z0a W (.cells #[.int .i64 0,.string ⟨#[]⟩,.string ⟨#[]⟩,.string ⟨#[]⟩,.slice none 0 0,.slice none 0 0] 102 (0,0)));have z0:=cell_of z 0;have z1:=cell_of z 1;have z2:=cell_of z 2;have z3:=cell_of z 3;have z4:=cell_of z 4;have z5:=cell_of z 5;have zf:=z0e z));have HW2:Hid (Below W.heap.size W w2):=hid (z0d (by (repeat (first|exact Below.refl _ _|assumption|with_reducible refine Below.drew ?_|with_reducible refine below_drewN ?_|with_reducible refine Below.setCell ?_ (by first|(simp;done)|(simp;omega)) _|with_reducible refine Below.alloc ?_ (by first|exact Nat.le_refl _|(simp;done)|(simp;omega)) _))) hw2 (by first|exact Nat.le_refl _|(simp;done)|(simp;omega)));clear hw2)
 all_goals first|(have hmid:=nodeB (k:=1) (cd:=cd) (vl:=vl) (pt:=⟨#[]⟩) (ya:=none) (za:=none) (yn:=0) (yc:=0) (zn:=0) (zc:=0) HW2.out z;generalize hE:((((((w2.setCell ⟨W.heap.size,0,none⟩ (.int .i64 1)).setCell ⟨W.heap.size,1,none⟩ (.string cd)).setCell ⟨W.heap.size,2,none⟩ (.string vl)).setCell ⟨W.heap.size,3,none⟩ (.string ⟨#[]⟩)).setCell ⟨W.heap.size,4,none⟩ (.slice none 0 0)).setCell ⟨W.heap.size,5,none⟩ (.slice none 0 0))=w3 at hmid ⊢;generalize hEu:W.heap.size=u at hmid ⊢)|(have hmid:=nmidA (o:=(.cells #[.int .i64 1,.string cd,.string vl,.string ⟨#[]⟩,.slice none 0 0,.slice none 0 0] 102 (0,0))) HW2.out;generalize hE:w2.alloc (.cells #[.int .i64 1,.string cd,.string vl,.string ⟨#[]⟩,.slice none 0 0,.slice none 0 0] 102 (0,0))=w3 at hmid ⊢;generalize hEu:w2.heap.size=u at hmid ⊢)
 all_goals
  try clear z z0 z1 z2 z3 z4 z5 zf
  clear hE hEu HPN n0 n1 t0 HW2 l0 l1 HTW
  obtain⟨hb3,hu,ho⟩:=hmid
  have HB3:=hid ((hlb ▸ HB1.out).trans (hb3.mono (hlb ▸ HB1.out.size)))
  have hs3:=HS1.out.keep hb3
  have R3:=hid ((hb3.block _ (lt_of_block R1.out)).trans R1.out)
  have B3:=hid ((hb3.block _ (lt_of_block B1.out)).trans B1.out)
  have s0:=cell_of hs3.h 0
  have s2:=cell_of hs3.h 2
  have s3:=cell_of hs3.h 3
  rw[HWH.out] at s0
  have o1:=cell_of ho 1
  have HO3:=hid ho
  have HS3:=hid hs3
  have hul:w.heap.size<=u:=by have:=HB1.out.size;omega
  have hrx:=fun w=>run_byte (P:=Tryz.prog) w 9 cd (s.depth+s.at_) y (by kernel_rfl) HY.out
  clear hs3 ho hb3
  have hsum:s.depth+s.at_<cd.size:=by
   have:=(List.getElem?_eq_some_iff.1 HY.out).1
   rwa [z1b] at this
  have hrx':∀ w,(Instr.index 9 (.string cd) (.int .i64 ((s.depth:Int)+(s.at_:Int)))).run Tryz.prog w=.ok (.int .u8 (y.toNat:Int)) w:=hrx
  have HRX:=hid hrx'
  clear hrx hrx'
  go_wp2_with fail
  refine z0g 13 (fun w1=>Below (w3).heap.size (w3) w1) (by kernel_rfl) (by kernel_rfl) (by kernel_rfl) ⟨rfl,rfl,rfl,Nat.le_refl _,fun _ _=>rfl⟩ ?_
  dsimp only[List.take]
  iterate 13
   refine Seq.cons (a':=?_) ?_ ?_ ?_
   rotate_left
   ·intro w1 hw1
    have o1:=cell_of (z0b HO3.out hw1 (lt_of_block HO3.out)) 1
    have s2:=cell_of (z0b HS3.out.h hw1 (lt_of_block HS3.out.h)) 2
    have s3:=cell_of (z0b HS3.out.h hw1 (lt_of_block HS3.out.h)) 3
    have hrx:=HRX.out
    go_wp2_with (fail)
    refine⟨?_,by first|assumption|(simpa using z0d hw1 hb hw1.size)⟩
    exact rfl
   ·kernel_rfl
  refine SeqI.nil ?_
  intro _ w1 _ hw1
  dsimp only[List.drop]
  obtain⟨W9,hW9⟩:∃ W9,W9=w1:=⟨_,rfl⟩
  subst hW9
  have hb9:=HB3.out.trans (hw1.mono HB3.out.size)
  have HB9:=hid hb9
  have R9:=hid (z0b R3.out hw1 (lt_of_block R3.out))
  have L9:=hid (z0b B3.out hw1 (lt_of_block B3.out))
  have HS9:=hid (HS3.out.keep hw1)
  have HT9:=hid (HTA.out.keep hb9)
  have HR9:=hid (HRE.out.keep hb9)
  have HRM9:=hid (HRM.out.keep hb9)
  have HM9:Hid (Mod (TOwn sg km) w W9):=hid (Mod.z0j hb9)
  have hlt:=HLT.out
  have hl9:=hb9.size
  have HLT9:Hid (t<W9.heap.size/\sb<W9.heap.size/\sg<W9.heap.size/\kb<W9.heap.size/\km<W9.heap.size):=hid (by omega)
  have HNB:=hid hnb
  have HNB2:Hid (¬ TOwn sg km rb/\¬ TOwn sg km lb):=hid (by have:=HRB.out;refine⟨?_,?_⟩<;>rintro (e|e)<;>omega)
  have hes:(c.extract s.depth c.size).size=c.size - s.depth:=by simp
  have hxl:s.at_<c.size - s.depth:=by
   have:=(List.getElem?_eq_some_iff.1 HX.out).1
   rw[z1b] at this
   rw[<- hes]
   exact this
  have hri:∀ w,(Instr.index 9 (.string (c.extract s.depth c.size)) (.int .i64 s.at_)).run Tryz.prog w=.ok (.int .u8 (x.toNat:Int)) w:=fun w=>run_byte w _ (rst c s.depth) s.at_ x (by kernel_rfl) HX.out
  have HNF:=hid (fun w1=>nfork_at ((c.extract s.depth c.size).extract 0 s.at_) ⟨y.toNat,r.1,r.2⟩ ⟨x.toNat,lf.1,lf.2⟩ w1 (by simp;omega) hkr hkl (fun e=>hxy (UInt8.toNat_inj.1 (by have e':(y.toNat:Int)=x.toNat:=e;omega))))
  have HES:=hid hes
  have HXL:=hid hxl
  have HRI:=hid hri
  have HFJ:=hid hF
  obtain⟨cj,hcj,_,hcg,hcr⟩:=HRE.out.cell hj
  have HCJ:=hid (And.intro hcj (And.intro hcg (hcr.trans hjr)))
  have HRR:=hid (And.intro hr1 hr2)
  have HU1:=hid (fun w1 (hs1:SpotAt w1 b g wc s)=>up_at (k:=1) hs1 (by omega) HUL.out)
  have H0:=hid h0
  have HQU:=hid hqu
  have HJU:=hid hju
  have HKJ:=hid hkj
  have HKF:=hid hkf
  have HKS:=hid (And.intro hks hkg)
  have HKN:=hid hkn
  have HKO:=hid hok
  clear hw1 hb9 HB3 HS3 R3 B3 HRX HO3 HTA hcj hcg hcr hes hxl hri hlt hl9 HRE HRM hnb hF hj hjr hr1 hr2 hkj hkf hks hkg hkn hok hqu hju h0 hkr hkl hxy hqr
  go_wp2_with fail
  have hok:RJOk (TOwn sg km) (fun w1=>TreeAt w1 t sb sg kb km l L tk) (fun w1=>∃ gb gk,TreeAt w1 t sb sg kb km ((l).set j ⟨true,(⟨2,⟨#[]⟩,⟨#[]⟩,((c.extract s.depth c.size).extract 0 s.at_),⟨some ⟨gb,0,none⟩,2,2⟩,⟨some ⟨gk,0,none⟩,2,2⟩,false,false⟩:Nd),pj.gen+1⟩) (K.addL L rr).2 tk/\O.NodeIn w1 2 ((c.extract s.depth c.size).extract 0 s.at_) (some ⟨gb,0,none⟩) 2 2 (some ⟨gk,0,none⟩) 2 2 (z1p ⟨y.toNat,r.1,r.2⟩ ⟨x.toNat,lf.1,lf.2⟩)/\W9.heap.size<=gb/\W9.heap.size<=gk) (fun w1 v=>∃ gb gk,v=.agg #[.int .i64 2,.string ⟨#[]⟩,.string ⟨#[]⟩,.string ((c.extract s.depth c.size).extract 0 s.at_),.slice (some ⟨gb,0,none⟩) 2 2,.slice (some ⟨gk,0,none⟩) 2 2]/\O.NodeIn w1 2 ((c.extract s.depth c.size).extract 0 s.at_) (some ⟨gb,0,none⟩) 2 2 (some ⟨gk,0,none⟩) 2 2 (z1p ⟨y.toNat,r.1,r.2⟩ ⟨x.toNat,lf.1,lf.2⟩)/\W9.heap.size<=gb/\W9.heap.size<=gk) W9 36 #[.int .i64 0,.int .u32 0]:=by
   have kn:∀ w w' gb gk,O.NodeIn w 2 ((c.extract s.depth c.size).extract 0 s.at_) (some ⟨gb,0,none⟩) 2 2 (some ⟨gk,0,none⟩) 2 2 (z1p ⟨y.toNat,r.1,r.2⟩ ⟨x.toNat,lf.1,lf.2⟩)->Below w.heap.size w w'->O.NodeIn w' 2 ((c.extract s.depth c.size).extract 0 s.at_) (some ⟨gb,0,none⟩) 2 2 (some ⟨gk,0,none⟩) 2 2 (z1p ⟨y.toNat,r.1,r.2⟩ ⟨x.toNat,lf.1,lf.2⟩):=fun w w' gb gk h hb=>h.keep hb
   have ko:∀ w w' u gb gk,w.heap[u]?=some (.cells #[.int .i64 0,.int .u32 0] 36 (0,0))->Mod (·=u) w w'->O.NodeIn w 2 ((c.extract s.depth c.size).extract 0 s.at_) (some ⟨gb,0,none⟩) 2 2 (some ⟨gk,0,none⟩) 2 2 (z1p ⟨y.toNat,r.1,r.2⟩ ⟨x.toNat,lf.1,lf.2⟩)->O.NodeIn w' 2 ((c.extract s.depth c.size).extract 0 s.at_) (some ⟨gb,0,none⟩) 2 2 (some ⟨gk,0,none⟩) 2 2 (z1p ⟨y.toNat,r.1,r.2⟩ ⟨x.toNat,lf.1,lf.2⟩):=fun w w' u gb gk hu hM h=>by
    have h1:gb≠u:=O.z1m h.b hu (by decide) gb rfl
    obtain⟨g',eg,_,hc⟩:=O.z0z h.z (by rw[forkK_len];omega)
    have h2:gk≠u:=fun e=>by
     have e2:gk=g':=by injection eg with eg;injection eg
     have hl3:3<(z2v (z1p ⟨y.toNat,r.1,r.2⟩ ⟨x.toNat,lf.1,lf.2⟩)).length:=by rw[kidsL_len,forkK_len];omega
     have:=hc 3 _ (List.getElem?_eq_getElem hl3)
     rw[<- e2,e,cell_of hu 3] at this
     simp at this
    exact⟨O.z0h h.b hM (fun k hk e=>by simp only[Value.ownBlock,Option.some.injEq] at hk;have:k=u:=e;omega),O.z0h h.z hM (fun k hk e=>by simp only[Value.ownBlock,Option.some.injEq] at hk;have:k=u:=e;omega),h.k1,h.k2,h.p,h.len,h.rise,h.ok⟩
   have kt:∀ w w' gb gk,W9.heap.size<=gb->W9.heap.size<=gk->Mod (TOwn sg km) w w'->O.NodeIn w 2 ((c.extract s.depth c.size).extract 0 s.at_) (some ⟨gb,0,none⟩) 2 2 (some ⟨gk,0,none⟩) 2 2 (z1p ⟨y.toNat,r.1,r.2⟩ ⟨x.toNat,lf.1,lf.2⟩)->O.NodeIn w' 2 ((c.extract s.depth c.size).extract 0 s.at_) (some ⟨gb,0,none⟩) 2 2 (some ⟨gk,0,none⟩) 2 2 (z1p ⟨y.toNat,r.1,r.2⟩ ⟨x.toNat,lf.1,lf.2⟩):=fun w w' gb gk l1 l2 hM h=>⟨O.z0h h.b hM (fun k hk=>by simp only[Value.ownBlock,Option.some.injEq] at hk;exact (fun {k:Nat} (hk:W9.heap.size<=k)=>(show ¬ TOwn sg km k by have:=HLT9.out;rintro (e|e)<;>omega)) (by omega)),O.z0h h.z hM (fun k hk=>by simp only[Value.ownBlock,Option.some.injEq] at hk;exact (fun {k:Nat} (hk:W9.heap.size<=k)=>(show ¬ TOwn sg km k by have:=HLT9.out;rintro (e|e)<;>omega)) (by omega)),h.k1,h.k2,h.p,h.len,h.rise,h.ok⟩
   have hl:=HLT9.out
   refine⟨fun w w' h hb=>h.keep hb,?_,?_,fun w w' u hu hc hM h=>h.mod hM (show ¬ t=u by omega) (show ¬ sb=u by omega) (show ¬ sg=u by omega) (show ¬ kb=u by omega) (show ¬ km=u by omega),?_,?_,?_,?_⟩
   ·rintro w w' ⟨gb,gk,h1,h2,h3⟩ hb
    exact⟨gb,gk,h1.keep hb,kn _ _ _ _ h2 hb,h3⟩
   ·rintro w w' v ⟨gb,gk,h1,h2,h3⟩ hb
    exact⟨gb,gk,h1,kn _ _ _ _ h2 hb,h3⟩
   ·rintro w w' u hu hc hM ⟨gb,gk,h1,h2,h3⟩
    exact⟨gb,gk,h1.mod hM (show ¬ t=u by omega) (show ¬ sb=u by omega) (show ¬ sg=u by omega) (show ¬ kb=u by omega) (show ¬ km=u by omega),ko _ _ _ _ _ hc hM h2,h3⟩
   ·rintro w w' u v hu hc hM ⟨gb,gk,h1,h2,h3⟩
    exact⟨gb,gk,h1,ko _ _ _ _ _ hc hM h2,h3⟩
   ·rintro w w' v hM ⟨gb,gk,h1,h2,h3⟩
    exact⟨gb,gk,h1,kt _ _ _ _ h3.1 h3.2 hM h2,h3⟩
   ·rintro k (e|e)<;>omega
  have HOK:=hid hok
  clear hok
  refine z0r 26 [18,23] (fun xs=>[.pointer (some ⟨t,0,none⟩),.pointer (some ⟨t,0,none⟩),.pointer (some ⟨t,0,none⟩),.string (c.extract s.depth c.size),.pointer (some ⟨b,0,none⟩),.pointer (some ⟨b,0,none⟩),.pointer (some ⟨b,2,none⟩),.int .i64 s.at_,.string ((c.extract s.depth c.size).extract 0 s.at_),.int .u8 y.toNat,.agg #[.int .i64 r.1,.int .u32 r.2],.string (c.extract s.depth c.size),.pointer (some ⟨b,0,none⟩),.pointer (some ⟨b,0,none⟩),.pointer (some ⟨b,2,none⟩),.int .i64 s.at_,.int .u8 x.toNat,.agg #[.int .i64 lf.1,.int .u32 lf.2],xs 18,.tuple #[.agg #[.int .i64 j,.int .u32 (pj.gen+1)],.int .i64 0],.tuple #[.agg #[.int .i64 j,.int .u32 (pj.gen+1)],.int .i64 0],.agg #[.int .i64 j,.int .u32 (pj.gen+1)],.int .i64 0,xs 23,undef,.int .i64 0]) (RJ (TOwn sg km) (fun w1=>TreeAt w1 t sb sg kb km l L tk) (fun w1=>∃ gb gk,TreeAt w1 t sb sg kb km ((l).set j ⟨true,(⟨2,⟨#[]⟩,⟨#[]⟩,((c.extract s.depth c.size).extract 0 s.at_),⟨some ⟨gb,0,none⟩,2,2⟩,⟨some ⟨gk,0,none⟩,2,2⟩,false,false⟩:Nd),pj.gen+1⟩) (K.addL L rr).2 tk/\O.NodeIn w1 2 ((c.extract s.depth c.size).extract 0 s.at_) (some ⟨gb,0,none⟩) 2 2 (some ⟨gk,0,none⟩) 2 2 (z1p ⟨y.toNat,r.1,r.2⟩ ⟨x.toNat,lf.1,lf.2⟩)/\W9.heap.size<=gb/\W9.heap.size<=gk) (fun w1 v=>∃ gb gk,v=.agg #[.int .i64 2,.string ⟨#[]⟩,.string ⟨#[]⟩,.string ((c.extract s.depth c.size).extract 0 s.at_),.slice (some ⟨gb,0,none⟩) 2 2,.slice (some ⟨gk,0,none⟩) 2 2]/\O.NodeIn w1 2 ((c.extract s.depth c.size).extract 0 s.at_) (some ⟨gb,0,none⟩) 2 2 (some ⟨gk,0,none⟩) 2 2 (z1p ⟨y.toNat,r.1,r.2⟩ ⟨x.toNat,lf.1,lf.2⟩)/\W9.heap.size<=gb/\W9.heap.size<=gk) W9 36 #[.int .i64 0,.int .u32 0] (fun _=>#[.int .i64 j,.int .u32 (pj.gen+1)]) false 18 19 23 24 [] [] (fun _=>undef) (fun _ x=>x)) ?h0 (fun xs ys h=>by simp[h]) ?hs ?hend
  case h0=>exact RJ.start (HT9.out.keep (Below.refl _ _).drew)
  case hs =>
   dsimp only[List.take,z1c,OpT,z1s]
   (repeat' refine And.intro ?_ ?_)<;>first|refine .inl ⟨rfl,?_⟩|refine .inr ⟨rfl,?_⟩
   iterate 18
    ·intro D xs w1 hDk hwt hJ
     have s2:=cell_of (HS9.out.mod' hJ.m HNB.out.1 HNB.out.2).h 2;have hR:=(hJ.m.block rb (lt_of_block R9.out) HNB2.out.1).trans R9.out;have n0:=cell_of hR 0;have n1:=cell_of hR 1;have hL:=(hJ.m.block lb (lt_of_block L9.out) HNB2.out.2).trans L9.out;have m0:=cell_of hL 0;have m1:=cell_of hL 1;have hxl:=HXL.out;have hes:=HES.out;have hri:=HRI.out;clear hR hL
     have HJ:=hid hJ
     clear hDk hwt hJ
     go_wp2_with fail
     exact⟨by kernel_rfl,fun _ _=>RJ.calm HOK.out HJ.out (Below.refl _ _)⟩
   ·intro D xs w1 hDk hwt hJ
    have hD:D 18=false:=hDk
    have hsz:=hJ.m.size
    have HJ:=hid hJ
    clear hDk hwt hJ
    go_wp2_with (go_at_call 72;refine (HNF.out _).mono ?_;rintro e w2 ⟨gb,gk,rfl,hN2,hb2,hgb,hgk⟩)
    exact⟨_,by kernel_rfl,fun q hq=>by obtain rfl:=hq rfl;exact RJ.call HOK.out HJ.out (.inr fun _ _=>rfl) hD ⟨gb,gk,rfl,hN2,by omega,by omega⟩ hb2⟩
   ·intro D xs w1 hDk hwt hJ
    have hD:D 19=false:=hDk
    obtain⟨gb,gk,ea,hN,hgb,hgk⟩:=hJ.l (hwt 18 (eM (by kernel_rfl)))
    rw[ea]
    have hp:=hJ.p
    rw[hD] at hp
    simp only[cond_false] at hp
    have htk:=take_at 2 ⟨#[]⟩ ⟨#[]⟩ ((c.extract s.depth c.size).extract 0 s.at_) (some ⟨gb,0,none⟩) (some ⟨gk,0,none⟩) 2 2 2 2 false w1 hp (HR9.out.first HFJ.out) HCJ.out.1 HCJ.out.2.2 rr HRR.out.1 (by rw[HRR.out.2,HCJ.out.2.1])
    rw[HCJ.out.2.1] at htk
    have HTK:=hid htk
    have HEA:=hid ea
    have HN:=hid hN
    clear hp htk ea hN
    have HJ:=hid hJ
    clear hDk hwt hJ
    go_wp2_with (go_at_call 34;refine HTK.out.mono ?_;rintro e w2 ⟨rfl,hT2,hM2⟩)
    have hl9:=HLT9.out
    have hp1:(fun w1=>∃ gb gk,TreeAt w1 t sb sg kb km ((l).set j ⟨true,(⟨2,⟨#[]⟩,⟨#[]⟩,((c.extract s.depth c.size).extract 0 s.at_),⟨some ⟨gb,0,none⟩,2,2⟩,⟨some ⟨gk,0,none⟩,2,2⟩,false,false⟩:Nd),pj.gen+1⟩) (K.addL L rr).2 tk/\O.NodeIn w1 2 ((c.extract s.depth c.size).extract 0 s.at_) (some ⟨gb,0,none⟩) 2 2 (some ⟨gk,0,none⟩) 2 2 (z1p ⟨y.toNat,r.1,r.2⟩ ⟨x.toNat,lf.1,lf.2⟩)/\W9.heap.size<=gb/\W9.heap.size<=gk) w2:=⟨gb,gk,hT2,⟨O.z0h HN.out.b hM2 (fun k hk=>by simp only[Value.ownBlock,Option.some.injEq] at hk;exact (fun {k:Nat} (hk:W9.heap.size<=k)=>(show ¬ TOwn sg km k by have:=HLT9.out;rintro (e|e)<;>omega)) (by omega)),O.z0h HN.out.z hM2 (fun k hk=>by simp only[Value.ownBlock,Option.some.injEq] at hk;exact (fun {k:Nat} (hk:W9.heap.size<=k)=>(show ¬ TOwn sg km k by have:=HLT9.out;rintro (e|e)<;>omega)) (by omega)),HN.out.k1,HN.out.k2,HN.out.p,HN.out.len,HN.out.rise,HN.out.ok⟩,hgb,hgk⟩
    exact⟨by kernel_rfl,fun q hq=>by obtain rfl:=hq rfl;exact RJ.turn HOK.out HJ.out hp1 hM2⟩
   iterate 3
    ·intro D xs w1 hDk hwt hJ
     skip
     have HJ:=hid hJ
     clear hDk hwt hJ
     go_wp2_with fail
     exact⟨by kernel_rfl,fun _ _=>RJ.calm HOK.out HJ.out (Below.refl _ _)⟩
   ·intro D xs w1 hDk hwt hJ
    have hD:D 23=false:=hDk
    have HJ:=hid hJ
    clear hDk hwt hJ
    go_wp2_with fail
    exact⟨_,by kernel_rfl,fun q hq=>by obtain rfl:=hq rfl;exact RJ.alloc HOK.out HJ.out hD⟩
   ·intro D xs w1 hDk hwt hJ
    have hD:D 24=false:=hDk
    have hA:=hwt 23 (eM (by kernel_rfl))
    obtain⟨b0,hb0,eb0,hc0⟩:=hJ.a hA
    rw[eb0]
    have HEB:=hid eb0
    clear eb0
    rw[hD] at hc0
    simp only[cond_false] at hc0
    have q0:=cell_of hc0 0
    have q1:=cell_of hc0 1
    have qf:=z0e hc0
    have HC:=hid hc0
    clear hc0
    have HJ:=hid hJ
    clear hDk hwt hJ
    go_wp2_with fail
    obtain⟨m1,m2⟩:=set2_mod (v:=.int .i64 j) (v':=.int .u32 (pj.gen+1)) HC.out
    exact⟨by kernel_rfl,fun q _=>RJ.store HOK.out HJ.out hD (fun e=>by cases e) hA HEB.out m2 m1⟩
   ·intro D xs w1 hDk hwt hJ
    skip
    have HJ:=hid hJ
    clear hDk hwt hJ
    go_wp2_with fail
    exact⟨by kernel_rfl,fun _ _=>RJ.calm HOK.out HJ.out (Below.refl _ _)⟩
  case hend =>
   intro D xs w10 hD hJ
   have hp:=hJ.p
   rw[hD 19 (by omega)] at hp
   simp only[cond_true] at hp
   obtain⟨gb,gk,hTA,hN,hgb,hgk⟩:=hp
   obtain⟨u,hu,eu,hc⟩:=hJ.a (hD 23 (by omega))
   rw[hD 24 (by omega)] at hc
   simp only[cond_true] at hc
   have hM:=hJ.m
   have HP10:Hid (z0s w10 t sb sg kb km ((P).set j ⟨true,⟨.z0k 2 ((rst c s.depth).extract 0 s.at_) (z1p ⟨y.toNat,r.1,r.2⟩ ⟨x.toNat,lf.1,lf.2⟩),false,false⟩,pj.gen+1⟩) (K.addL L rr).2 tk):=hid ⟨_,hTA,Rel.set (x:=(⟨2,⟨#[]⟩,⟨#[]⟩,((c.extract s.depth c.size).extract 0 s.at_),⟨some ⟨gb,0,none⟩,2,2⟩,⟨some ⟨gk,0,none⟩,2,2⟩,false,false⟩:Nd)) (q:=⟨.z0k 2 ((rst c s.depth).extract 0 s.at_) (z1p ⟨y.toNat,r.1,r.2⟩ ⟨x.toNat,lf.1,lf.2⟩),false,false⟩) (HR9.out.mod hM HT9.out.noRow) true (fun _=>⟨rfl,rfl,rfl,rfl,rfl,rfl,hN,forkK_may _ _ _⟩)⟩
   have HS10:=hid (HS9.out.mod' hM HNB.out.1 HNB.out.2)
   have R10:=hid ((hM.block rb (lt_of_block R9.out) HNB2.out.1).trans R9.out)
   have U10:Hid (w10.heap[u]?=some (.cells #[.int .i64 j,.int .u32 (pj.gen+1)] 36 (0,0))):=hid hc
   have HRM10:=hid (z1w HRM9.out hM H0.out)
   have HM10:=hid (HM9.out.trans hM (fun _ _ h=>h))
   have hlt9:=HLT9.out
   have HNS:Hid (¬ rb=sg/\¬ u=sg/\¬ b=sg/\¬ g=sg):=hid ⟨fun e=>HNB2.out.1 (.inl e),by omega,fun e=>HNB.out.1 (.inl e),fun e=>HNB.out.2 (.inl e)⟩
   have HLU:Hid (z0l ((P).set j ⟨true,⟨.z0k 2 ((rst c s.depth).extract 0 s.at_) (z1p ⟨y.toNat,r.1,r.2⟩ ⟨x.toNat,lf.1,lf.2⟩),false,false⟩,pj.gen+1⟩) u0.1 u0.2 iu ⟨.z0k k pt Lk,pl,di⟩):=hid (by obtain⟨e,p,h1,h2⟩:=HQU.out;exact⟨e,p,by rw[List.getElem?_set_ne HJU.out];exact h1,h2⟩)
   dsimp only[List.take,z1s,List.drop]
   rw[eu]
   clear hD hJ hTA hN hgb hgk hu eu hc hM hlt9 HOK
   go_wp2_with fail
   refine z0f 8 (Turn 7 (KidJ w10 t sb sg kb km ((P).set j ⟨true,⟨.z0k 2 ((rst c s.depth).extract 0 s.at_) (z1p ⟨y.toNat,r.1,r.2⟩ ⟨x.toNat,lf.1,lf.2⟩),false,false⟩,pj.gen+1⟩) (K.addL L rr).2 tk) (KidJ w10 t sb sg kb km ((((P).set j ⟨true,⟨.z0k 2 ((rst c s.depth).extract 0 s.at_) (z1p ⟨y.toNat,r.1,r.2⟩ ⟨x.toNat,lf.1,lf.2⟩),false,false⟩,pj.gen+1⟩)).set iu ⟨true,⟨.z0k k pt (z1t Lk kk.b j (pj.gen+1)),pl,di⟩,u0.2⟩) (K.addL L rr).2 tk)) (by kernel_rfl) (by kernel_rfl) (by kernel_rfl) (Turn.start ⟨(Mod.refl (·=sg) w10).drew,HP10.out.keep (Below.refl _ _).drew⟩) ?_
   dsimp only[List.take]
   iterate 7
    refine Seq.calm (a':=?_) (by decide) ?_ ?_ ?_
    rotate_left
    ·intro w1 hw1
     have hM:Mod (·=sg) w10 w1:=hw1.elim KidJ.m KidJ.m;have n0:=cell_of ((hM.block rb (lt_of_block R10.out) HNS.out.1).trans R10.out) 0;have n1:=cell_of ((hM.block rb (lt_of_block R10.out) HNS.out.1).trans R10.out) 1;have m0:=cell_of ((hM.block u (lt_of_block U10.out) HNS.out.2.1).trans U10.out) 0;have m1:=cell_of ((hM.block u (lt_of_block U10.out) HNS.out.2.1).trans U10.out) 1;have HUX:=hid (HU1.out w1 (HS10.out.mod' hM HNS.out.2.2.1 HNS.out.2.2.2));clear hM
     go_wp2_with (go_at_call 31;refine HUX.out.mono ?_;rintro e w' ⟨rfl,hb⟩)
     first|(refine⟨?_,id,id⟩;exact rfl)|(refine⟨?_,(fun h=>KidJ.keep h hb),(fun h=>KidJ.keep h hb)⟩;exact rfl)
    ·kernel_rfl
   refine Seq.turn (a':=?_) ?_ ?_ ?_
   rotate_left
   ·intro w1 hw1
    have HM:=hid hw1.m
    have HTT:=hid hw1.t
    have HRMX:=hid (z1w HRM10.out hw1.m (fun e=>H0.out (.inl e)))
    clear hw1
    go_wp2_with (go_at_call 38;refine (kid_P u0.1 u0.2 r.1 r.2 j (pj.gen+1) w1 HTT.out HRMX.out HLU.out HKJ.out HKF.out HKS.out.1 HKS.out.2 HKN.out HKO.out).mono ?_;rintro e w2 ⟨rfl,hT,hX⟩)
    refine⟨?_,HM.out.trans hX (fun _ _ h=>h),hT⟩
    exact rfl
   ·kernel_rfl
   iterate 0
    refine Seq.calm (a':=?_) (by decide) ?_ ?_ ?_
    rotate_left
    ·intro w1 hw1
     have hM:Mod (·=sg) w10 w1:=hw1.elim KidJ.m KidJ.m;have n0:=cell_of ((hM.block rb (lt_of_block R10.out) HNS.out.1).trans R10.out) 0;have n1:=cell_of ((hM.block rb (lt_of_block R10.out) HNS.out.1).trans R10.out) 1;have m0:=cell_of ((hM.block u (lt_of_block U10.out) HNS.out.2.1).trans U10.out) 0;have m1:=cell_of ((hM.block u (lt_of_block U10.out) HNS.out.2.1).trans U10.out) 1;have HUX:=hid (HU1.out w1 (HS10.out.mod' hM HNS.out.2.2.1 HNS.out.2.2.2));clear hM
     go_wp2_with (go_at_call 31;refine HUX.out.mono ?_;rintro e w' ⟨rfl,hb⟩)
     first|(refine⟨?_,id,id⟩;exact rfl)|(refine⟨?_,(fun h=>KidJ.keep h hb),(fun h=>KidJ.keep h hb)⟩;exact rfl)
    ·kernel_rfl
   refine SeqI.nil ?_
   intro D w1 hD hI
   replace hI:=hI.done (hD 7 (by omega))
   clear hD
   dsimp only[List.drop]
   have HI:=hid hI
   clear hI
   go_wp2_with fail
   go_end0
   exact⟨rfl,HI.out.t,HM10.out.trans HI.out.m (fun _ _ h=>.inl h)⟩
end Go.Proofs.YtgdmfledhhoedaaGreatDoor.T
