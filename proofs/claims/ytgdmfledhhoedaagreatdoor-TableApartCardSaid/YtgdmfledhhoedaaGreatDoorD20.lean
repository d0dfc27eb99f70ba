/- Part 20 of 27. -/
import Derived.Test.YtgdmfledhhoedaaGreatDoorD19
import Derived.Test.YtgdmfledhhoedaaGreatDoorD08
import Derived.Test.YtgdmfledhhoedaaGreatDoorD09
import Derived.OwnWalk
import Derived.Maps.OwnOps
import Derived.Test.YtgdmfledhhoedaaGreatDoorD01
import Derived.Test.YtgdmfledhhoedaaGreatDoorD14
import Derived.Test.YtgdmfledhhoedaaGreatDoorRows
import Derived.Test.YtgdmfledhhoedaaGreatDoorD02
import Derived.WalkSpells
namespace Go.Burg
open Go Go.RowKit
inductive Post (P:List (Cel PNd)):Nat->Int->(Nat->Prop)->List (Int × Int)->Ents->Prop
 | leaf {i:Nat} {g:Int} {c v:ByteArray} {pl di:Bool} (h:z0l P i g i ⟨.leaf c v,pl,di⟩):Post P i g (·=i) [((i:Int),g)] [(c,v)]
 | node {i:Nat} {g:Int} {k:Nat} {pt:ByteArray} {L:List Kd} {pl di:Bool} {ki:Nat->Nat} {Ss:Nat->Nat->Prop} {Rs:Nat->List (Int × Int)} {Es:Nat->Ents} (h:z0l P i g i ⟨.z0k k pt L,pl,di⟩) (hk:∀ j kd,L[j]?=some kd->kd.s=(ki j:Int))
  (hs:∀ j kd,L[j]?=some kd->Post P (ki j) kd.g (Ss j) (Rs j) (Es j)) (d1:∀ j x,j<L.length->Ss j x->x≠i) (d2:∀ j j' x,j<L.length->j'<L.length->Ss j x->Ss j' x->j=j') :
  Post P i g (fun x=>x=i\/∃ j,j<L.length/\Ss j x) ((List.range L.length).flatMap Rs++[((i:Int),g)]) ((List.range L.length).flatMap Es)
variable {di pl:Bool}
theorem Sub.post {P:List (Cel PNd)} {i:Nat} {g:Int} {pre:List UInt8} {S:Nat->Prop} {E:Ents} (h:Sub P i g pl pre S E):∃ R,Post P i g S R E:=by
 induction h with
 | leaf h=>exact⟨_,.leaf h⟩
 | @node i g k pt L pl pre ki Ss Es h hk hsub d1 d2 hr hok hl hn ha ih =>
  have key:∀ j,∃ R,∀ kd,L[j]?=some kd->Post P (ki j) kd.g (Ss j) R (Es j):=fun j=>by
   cases hj:L[j]? with
   | none=>exact⟨[],fun kd h=>by cases h⟩
   | some kd =>
    obtain⟨R,hR⟩:=ih j kd hj
    exact⟨R,fun kd' e=>by cases e;exact hR⟩
  exact⟨_,.node (Rs:=fun j=>(key j).choose) h hk (fun j kd hj=>(key j).choose_spec kd hj) d1 d2⟩
variable {gx:Int} {x:Nat}
section
variable {P:List (Cel PNd)} {i:Nat} {g:Int} {S:Nat->Prop} {R:List (Int × Int)} {E:Ents}
theorem Post.mem (h:Post P i g S R E):∀ r∈R,∃ x q,r.1=((x:Nat):Int)/\S x/\z0l P x r.2 x q:=by
 induction h with
 | leaf h=>intro r hr;simp at hr;subst hr;exact⟨_,_,rfl,rfl,h⟩
 | @node i g k pt L pl di ki Ss Rs Es h hk hs d1 d2 ih =>
  intro r hr
  rcases List.mem_append.1 hr with hr|hr
  ·obtain⟨j,hj,hr⟩:=List.mem_flatMap.1 hr
   have hj':=List.mem_range.1 hj
   obtain⟨x,q,h1,h2,h3⟩:=ih j _ (List.getElem?_eq_getElem hj') r hr
   exact⟨x,q,h1,.inr ⟨j,hj',h2⟩,h3⟩
  ·simp at hr
   subst hr
   exact⟨i,_,rfl,.inl rfl,h⟩
theorem Post.self (h:Post P i g S R E):S i:=by
 cases h with
 | leaf=>rfl
 | node=>exact .inl rfl
theorem Post.once (h:Post P i g S R E):(R.map (·.1)).Nodup:=by
 induction h with
 | leaf h=>simp
 | @node i g k pt L pl di ki Ss Rs Es h hk hs d1 d2 ih =>
  rw[List.map_append,List.nodup_append]
  refine⟨?_,by simp,?_⟩
  ·rw[List.map_flatMap,List.Nodup,List.pairwise_flatMap]
   refine⟨fun j hj=>ih j _ (List.getElem?_eq_getElem (List.mem_range.1 hj)),?_⟩
   refine List.Pairwise.imp_of_mem ?_ (List.pairwise_lt_range (n:=L.length))
   intro a b ha hb hab x hx y hy e
   obtain⟨r,hr,rfl⟩:=List.mem_map.1 hx
   obtain⟨r',hr',rfl⟩:=List.mem_map.1 hy
   have la:=List.mem_range.1 ha
   have lb:=List.mem_range.1 hb
   obtain⟨x,_,h1,h2,_⟩:=(hs a _ (List.getElem?_eq_getElem la)).mem r hr
   obtain⟨y,_,h3,h4,_⟩:=(hs b _ (List.getElem?_eq_getElem lb)).mem r' hr'
   have:x=y:=by omega
   subst this
   have:=d2 a b x la lb h2 h4
   omega
  ·intro a ha b hb e
   obtain⟨r,hr,rfl⟩:=List.mem_map.1 ha
   simp at hb
   obtain⟨j,hj,hr⟩:=List.mem_flatMap.1 hr
   have lj:=List.mem_range.1 hj
   obtain⟨x,_,h1,h2,_⟩:=(hs j _ (List.getElem?_eq_getElem lj)).mem r hr
   have:x=i:=by omega
   exact d1 j x lj h2 this
def leafAt (P:List (Cel PNd)) (r:Int × Int):Option (ByteArray × ByteArray):=match P[r.1.toNat]? with
 | some p=>match p.x.n with
  | .leaf c v=>some (c,v)
  | .z0k ..=>none
 | none=>none
theorem leafAt_leaf {c v:ByteArray} (h:z0l P x gx x ⟨.leaf c v,pl,di⟩):leafAt P ((x:Int),gx)=some (c,v):=by
 obtain⟨_,p,h1,_,_,h4⟩:=h
 unfold leafAt
 simp only[Int.toNat_natCast,h1,h4]
theorem leafAt_inner {k:Nat} {pt:ByteArray} {L:List Kd} (h:z0l P x gx x ⟨.z0k k pt L,pl,di⟩):leafAt P ((x:Int),gx)=none:=by
 obtain⟨_,p,h1,_,_,h4⟩:=h
 unfold leafAt
 simp only[Int.toNat_natCast,h1,h4]
theorem Post.leaves (h:Post P i g S R E):R.filterMap (leafAt P)=E:=by
 induction h with
 | leaf h=>simp[leafAt_leaf h]
 | @node i g k pt L pl di ki Ss Rs Es h hk hs d1 d2 ih =>
  rw[List.filterMap_append]
  have h1:[((i:Int),g)].filterMap (leafAt P)=[]:=by simp[leafAt_inner h]
  rw[h1,List.append_nil,List.filterMap_flatMap]
  refine flatMap_eq fun j hj=>ih j _ (List.getElem?_eq_getElem (List.mem_range.1 hj))
end
end Go.Burg
namespace Go.Proofs.YtgdmfledhhoedaaGreatDoor.T
set_option maxRecDepth 8000
open Go.ChangeShapes Go.WideShapes Go.ChangeAt Go.RowKit Go.Burg
theorem up_any (n:Int) (w:World) (_h0:-9223372036854775808<=n) (h1:n<=9223372036854775807):Calls Tryz.prog 174 #[.int .i64 n] w fun e w'=>e=.returned (.int .u64 (max n 0))/\w=w':=by
 go_enter Tryz.func174,Tryz.ntmps174
 go_wp2
 all_goals go_ret
 ·exact⟨congrArg (fun x=>Ending.returned (Value.int .u64 x)) (by omega),rfl⟩
 ·exact⟨congrArg (fun x=>Ending.returned (Value.int .u64 x)) (by omega),rfl⟩
theorem down_any (n:Int) (w:World) (h0:-9223372036854775808<=n) (h1:n<=9223372036854775807):Calls Tryz.prog 175 #[.int .i64 n] w fun e w'=>e=.returned (.int .u64 (max (-n) 0))/\w=w':=by
 by_cases hn:0<=n
 ·have hd:decide (n>=0)=true:=by simpa using hn
  have hN:=hid hn
  clear hn
  go_enter Tryz.func175,Tryz.ntmps175
  go_wp2
  go_ret
  have:=hN.out
  exact⟨congrArg (fun x=>Ending.returned (Value.int .u64 x)) (by omega),rfl⟩
 ·have hd:decide (n>=0)=false:=by simpa using hn
  have hN:=hid hn
  clear hn
  go_enter Tryz.func175,Tryz.ntmps175
  go_wp2
  go_ret
  have:=hN.out
  refine⟨congrArg (fun x=>Ending.returned (Value.int .u64 x)) ?_,rfl⟩
  have e1:∀ x,wrap64 x=(x+9223372036854775808) % 18446744073709551616 - 9223372036854775808:=fun _=>by unfold wrap64;rfl
  have e2:∀ x,IntKind.u64.wrap x=x % 18446744073709551616:=fun _=>rfl
  rw[e1 (n+1),e1,e2 (_ - _),e2]
  omega
theorem tenant_any (tn gn rt:Int) (r:Bool) (hr:(decide (1<=tn) && decide (tn<=16))=r) (w:World):Calls Tryz.prog 110 #[.agg #[.int .i64 tn,.int .u32 gn,.int .u8 rt]] w fun e w'=>e=.returned (.bool r)/\Below w.heap.size w w':=by
 subst hr
 by_cases h1:1<=tn<;>by_cases h2:tn<=16
 all_goals try (exfalso;omega)
 all_goals
  have g1:decide (tn>=1)=decide (1<=tn):=rfl
  simp only[h1,h2,decide_true,decide_false,Bool.and_true,Bool.and_false] at g1 ⊢
  go_enter Tryz.func110,Tryz.ntmps110
  go_wp2
  go_ret
  exact⟨rfl,by (repeat (first|exact Below.refl _ _|assumption|with_reducible refine Below.drew ?_|with_reducible refine below_drewN ?_|with_reducible refine Below.setCell ?_ (by first|(simp;done)|(simp;omega)) _|with_reducible refine Below.alloc ?_ (by first|exact Nat.le_refl _|(simp;done)|(simp;omega)) _))⟩
theorem gen_any (tn gn rt:Int) (r:Bool) (hr:decide (1<=gn)=r) (w:World):Calls Tryz.prog 111 #[.agg #[.int .i64 tn,.int .u32 gn,.int .u8 rt]] w fun e w'=>e=.returned (.bool r)/\Below w.heap.size w w':=by
 subst hr
 go_enter Tryz.func111,Tryz.ntmps111
 go_wp2
 go_ret
 exact⟨rfl,by (repeat (first|exact Below.refl _ _|assumption|with_reducible refine Below.drew ?_|with_reducible refine below_drewN ?_|with_reducible refine Below.setCell ?_ (by first|(simp;done)|(simp;omega)) _|with_reducible refine Below.alloc ?_ (by first|exact Nat.le_refl _|(simp;done)|(simp;omega)) _))⟩
theorem rights_any (tn gn rt:Int) (r:Bool) (hr:(decide (1<=rt) && decide (rt<=7))=r) (w:World):Calls Tryz.prog 112 #[.agg #[.int .i64 tn,.int .u32 gn,.int .u8 rt]] w fun e w'=>e=.returned (.bool r)/\Below w.heap.size w w':=by
 subst hr
 by_cases h1:1<=rt<;>by_cases h2:rt<=7
 all_goals try (exfalso;omega)
 all_goals
  have g1:decide (rt>=1)=decide (1<=rt):=rfl
  simp only[h1,h2,decide_true,decide_false,Bool.and_true,Bool.and_false] at g1 ⊢
  go_enter Tryz.func112,Tryz.ntmps112
  go_wp2
  go_ret
  exact⟨rfl,by (repeat (first|exact Below.refl _ _|assumption|with_reducible refine Below.drew ?_|with_reducible refine below_drewN ?_|with_reducible refine Below.setCell ?_ (by first|(simp;done)|(simp;omega)) _|with_reducible refine Below.alloc ?_ (by first|exact Nat.le_refl _|(simp;done)|(simp;omega)) _))⟩
theorem hhas_any (tn gn rt r:Int) (v:Bool) (hv:(bits .and .u8 rt r == r)=v) (w:World):Calls Tryz.prog 181 #[.agg #[.int .i64 tn,.int .u32 gn,.int .u8 rt],.int .u8 r] w fun e w'=>e=.returned (.bool v)/\Below w.heap.size w w':=by
 subst hv
 go_enter Tryz.func181,Tryz.ntmps181
 go_wp2
 go_ret
 exact⟨rfl,by (repeat (first|exact Below.refl _ _|assumption|with_reducible refine Below.drew ?_|with_reducible refine below_drewN ?_|with_reducible refine Below.setCell ?_ (by first|(simp;done)|(simp;omega)) _|with_reducible refine Below.alloc ?_ (by first|exact Nat.le_refl _|(simp;done)|(simp;omega)) _))⟩
def hRight (tn gn rt:Int):Bool:=(decide (1<=tn) && decide (tn<=16)) && decide (1<=gn) && (decide (1<=rt) && decide (rt<=7))
def hTest (tn gn rt:Int):Nat->Bool
 | 0=>decide (1<=tn) && decide (tn<=16)
 | 1=>decide (1<=gn)
 | _=>decide (1<=rt) && decide (rt<=7)
set_option maxHeartbeats 2000000 in
theorem right_any (tn gn rt:Int) (w:World):Calls Tryz.prog 88 #[.agg #[.int .i64 tn,.int .u32 gn,.int .u8 rt]] w fun e w'=>e=.returned (.bool (hRight tn gn rt))/\Below w.heap.size w w':=by
 go_enter Tryz.func88,Tryz.ntmps88
 go_wp2_with fail
 go_loopw [13] (fun iv wr=>∃ k:Nat,k<=3/\iv=.int .i64 k/\(∀ j,j<k->hTest tn gn rt j=true)/\wr.heap[w.heap.size+1]?=some (.cells #[.func (.func 110) #[.agg #[.int .i64 tn,.int .u32 gn,.int .u8 rt]] #[],.func (.func 111) #[.agg #[.int .i64 tn,.int .u32 gn,.int .u8 rt]] #[],.func (.func 112) #[.agg #[.int .i64 tn,.int .u32 gn,.int .u8 rt]] #[]] 46)/\Below w.heap.size w wr) (fun iv _=>3 - (intOf iv).toNat)
 case atStart=>exact⟨0,by omega,rfl,fun _ h=>absurd h (Nat.not_lt_zero _),by simpa using z0a (w.alloc (.cells #[.int .i64 tn,.int .u32 gn,.int .u8 rt] 183)) (.cells #[.func (.func 110) #[.agg #[.int .i64 tn,.int .u32 gn,.int .u8 rt]] #[],.func (.func 111) #[.agg #[.int .i64 tn,.int .u32 gn,.int .u8 rt]] #[],.func (.func 112) #[.agg #[.int .i64 tn,.int .u32 gn,.int .u8 rt]] #[]] 46),by (repeat (first|exact Below.refl _ _|assumption|with_reducible refine Below.drew ?_|with_reducible refine below_drewN ?_|with_reducible refine Below.setCell ?_ (by first|(simp;done)|(simp;omega)) _|with_reducible refine Below.alloc ?_ (by first|exact Nat.le_refl _|(simp;done)|(simp;omega)) _))⟩
 case round =>
  obtain⟨k,hk,rfl,hp,hS,hB⟩:=hrel
  have HP:=hid hp
  have HB:=hid hB
  have HS:=hid hS
  clear hp hB
  have s0:=cell_of hS 0
  have s1:=cell_of hS 1
  have s2:=cell_of hS 2
  clear hS
  rcases (by omega:k=0\/k=1\/k=2\/k=3) with rfl|rfl|rfl|rfl
  ·have HC:=hid (fun r hr w=>tenant_any tn gn rt r hr w)
   cases ht:hTest tn gn rt 0
   ·have HT:=hid ht
    have HD:=hid (fun w=>HC.out false ht w)
    clear ht
    go_wp2_with (go_at_call 110;refine (HD.out _).mono ?_;rintro e w2 ⟨rfl,hB2⟩;have HB2:=hid hB2;clear hB2)
    go_ret
    refine⟨?_,HB.out.trans (HB2.out.mono HB.out.size)⟩
    have:=HT.out
    simp only[hTest] at this
    simp[hRight,this]
   ·have HT:=hid ht
    have HD:=hid (fun w=>HC.out true ht w)
    clear ht
    go_wp2_with (go_at_call 110;refine (HD.out _).mono ?_;rintro e w2 ⟨rfl,hB2⟩;have HB2:=hid hB2;clear hB2)
    go_roundw
    case rel=>exact⟨0+1,by omega,by go_num,fun j hj=>by
     rcases Nat.lt_succ_iff_lt_or_eq.1 hj with h|rfl
     ·exact HP.out j h
     ·exact HT.out,z0b HS.out HB2.out (lt_of_block HS.out),HB.out.trans (HB2.out.mono HB.out.size)⟩
    case measure=>simp[intOf]
  ·have HC:=hid (fun r hr w=>gen_any tn gn rt r hr w)
   cases ht:hTest tn gn rt 1
   ·have HT:=hid ht
    have HD:=hid (fun w=>HC.out false ht w)
    clear ht
    go_wp2_with (go_at_call 111;refine (HD.out _).mono ?_;rintro e w2 ⟨rfl,hB2⟩;have HB2:=hid hB2;clear hB2)
    go_ret
    refine⟨?_,HB.out.trans (HB2.out.mono HB.out.size)⟩
    have:=HT.out
    simp only[hTest] at this
    simp[hRight,this]
   ·have HT:=hid ht
    have HD:=hid (fun w=>HC.out true ht w)
    clear ht
    go_wp2_with (go_at_call 111;refine (HD.out _).mono ?_;rintro e w2 ⟨rfl,hB2⟩;have HB2:=hid hB2;clear hB2)
    go_roundw
    case rel=>exact⟨1+1,by omega,by go_num,fun j hj=>by
     rcases Nat.lt_succ_iff_lt_or_eq.1 hj with h|rfl
     ·exact HP.out j h
     ·exact HT.out,z0b HS.out HB2.out (lt_of_block HS.out),HB.out.trans (HB2.out.mono HB.out.size)⟩
    case measure=>simp[intOf]
  ·have HC:=hid (fun r hr w=>rights_any tn gn rt r hr w)
   cases ht:hTest tn gn rt 2
   ·have HT:=hid ht
    have HD:=hid (fun w=>HC.out false ht w)
    clear ht
    go_wp2_with (go_at_call 112;refine (HD.out _).mono ?_;rintro e w2 ⟨rfl,hB2⟩;have HB2:=hid hB2;clear hB2)
    go_ret
    refine⟨?_,HB.out.trans (HB2.out.mono HB.out.size)⟩
    have:=HT.out
    simp only[hTest] at this
    simp[hRight,this]
   ·have HT:=hid ht
    have HD:=hid (fun w=>HC.out true ht w)
    clear ht
    go_wp2_with (go_at_call 112;refine (HD.out _).mono ?_;rintro e w2 ⟨rfl,hB2⟩;have HB2:=hid hB2;clear hB2)
    go_roundw
    case rel=>exact⟨2+1,by omega,by go_num,fun j hj=>by
     rcases Nat.lt_succ_iff_lt_or_eq.1 hj with h|rfl
     ·exact HP.out j h
     ·exact HT.out,z0b HS.out HB2.out (lt_of_block HS.out),HB.out.trans (HB2.out.mono HB.out.size)⟩
    case measure=>simp[intOf]
  ·go_wp2_with fail
   go_ret
   refine⟨?_,HB.out⟩
   have h0:=HP.out 0 (by omega)
   have h1:=HP.out 1 (by omega)
   have h2:=HP.out 2 (by omega)
   simp only[hTest] at h0 h1 h2
   simp[hRight,h0,h1,h2]
end Go.Proofs.YtgdmfledhhoedaaGreatDoor.T
namespace Go.Burg
open Go Go.RowKit
end Go.Burg
namespace Go.Proofs.YtgdmfledhhoedaaGreatDoor.T
set_option maxRecDepth 8000
open Go.ChangeShapes Go.WideShapes Go.ChangeAt Go.RowKit Go.Burg
theorem Right_any (tn gn rt:Int) (w:World):Calls Tryz.prog 52 #[.agg #[.int .i64 tn,.int .u32 gn,.int .u8 rt]] w fun e w'=>e=.returned (.bool (hRight tn gn rt))/\Below w.heap.size w w':=by
 go_enter Tryz.func52,Tryz.ntmps52
 go_wp2_with (go_at_call 88;refine (right_any _ _ _ _).mono ?_;rintro e w2 ⟨rfl,hB2⟩)
 go_ret
 exact⟨rfl,(Below.alloc (Below.refl _ _) (Nat.le_refl _) _).trans (hB2.mono (by simp))⟩
def asksL:List (Int × Int):=setKV (setKV (setKV (setKV (setKV (setKV [] 1 1) 6 1) 2 2) 3 2) 4 2) 5 4
def asksR (d:Int):Int:=(asksL.lookup d).getD 0
def asksIs (d:Int):Bool:=(asksL.lookup d).isSome
theorem asks_any (d:Int) (w:World):Calls Tryz.prog 180 #[.int .i64 d] w fun e w'=>e=.returned (.tuple #[.int .u8 (asksR d),.bool (asksIs d)])/\Below w.heap.size w w':=by
 have hmm:=@run_makeMap Tryz.prog
 have hM0:z0q (Value.int .i64) (Value.int .u8) (w.alloc (.map #[] 0)) w.heap.size []:=⟨#[],0,z0a _ _,by simp,by simp,by simp⟩
 obtain⟨W1,r1,M1,X1⟩:=hM0.store (P:=Tryz.prog) (KeyOk.int Tryz.underlying57) Tryz.underlying288 1 1
 obtain⟨W2,r2,M2,X2⟩:=M1.store (P:=Tryz.prog) (KeyOk.int Tryz.underlying57) Tryz.underlying288 6 1
 obtain⟨W3,r3,M3,X3⟩:=M2.store (P:=Tryz.prog) (KeyOk.int Tryz.underlying57) Tryz.underlying288 2 2
 obtain⟨W4,r4,M4,X4⟩:=M3.store (P:=Tryz.prog) (KeyOk.int Tryz.underlying57) Tryz.underlying288 3 2
 obtain⟨W5,r5,M5,X5⟩:=M4.store (P:=Tryz.prog) (KeyOk.int Tryz.underlying57) Tryz.underlying288 4 2
 obtain⟨W6,r6,M6,X6⟩:=M5.store (P:=Tryz.prog) (KeyOk.int Tryz.underlying57) Tryz.underlying288 5 4
 have hz:∀ w,(zeroValue 49).run Tryz.prog w=.ok (Value.int .u8 0) w:=fun _=>by kernel_rfl
 have hL:(Instr.lookup 288 (.map (some w.heap.size)) (.int .i64 d) true).run Tryz.prog W6=.ok (.tuple #[.int .u8 (asksR d),.bool (asksIs d)]) W6:=by
  have:=M6.lookup (P:=Tryz.prog) (KeyOk.int Tryz.underlying57) Tryz.underlying288 hz d true
  rw[this]
  unfold asksR asksIs asksL
  cases List.lookup d _<;>rfl
 have hB:Hid (Below w.heap.size w W6):=hid (by
  have h0:Below w.heap.size w (w.alloc (.map #[] 0)):=(Below.refl _ _).alloc (Nat.le_refl _) _
  have hX:=((((X1.trans X2 (fun _ _ h=>h)).trans X3 (fun _ _ h=>h)).trans X4 (fun _ _ h=>h)).trans X5 (fun _ _ h=>h)).trans X6 (fun _ _ h=>h)
  exact h0.trans ⟨hX.os,hX.tape,hX.output,hX.size,fun k hk=>hX.block k (by simp;omega) (by omega)⟩)
 clear hM0 M1 M2 M3 M4 M5 M6 X1 X2 X3 X4 X5 X6 hz
 go_enter Tryz.func180,Tryz.ntmps180
 go_wp2
 go_ret2
 refine⟨rfl,?_⟩
 have:=hB.out
 (repeat (first|exact Below.refl _ _|assumption|with_reducible refine Below.drew ?_|with_reducible refine below_drewN ?_|with_reducible refine Below.setCell ?_ (by first|(simp;done)|(simp;omega)) _|with_reducible refine Below.alloc ?_ (by first|exact Nat.le_refl _|(simp;done)|(simp;omega)) _))
def hAllows (tn gn rt d:Int):Bool:=asksIs d && hRight tn gn rt && (bits .and .u8 rt (asksR d) == asksR d)
theorem allows_any (tn gn rt d:Int) (w:World):Calls Tryz.prog 179 #[.agg #[.int .i64 tn,.int .u32 gn,.int .u8 rt],.int .i64 d] w fun e w'=>e=.returned (.bool (hAllows tn gn rt d))/\Below w.heap.size w w':=by
 have HA:=hid (asks_any d)
 have HR:=hid (Right_any tn gn rt)
 have HH:=hid (hhas_any tn gn rt (asksR d))
 unfold hAllows
 generalize asksIs d=s at HA
 generalize asksR d=r at HA HH
 generalize hRight tn gn rt=t at HR
 generalize hv:(bits .and .u8 rt r == r)=v
 have HH':=hid (fun w=>HH.out v hv w)
 clear HH hv
 have HN:=hid (z0a w (.cells #[.int .i64 tn,.int .u32 gn,.int .u8 rt] 51))
 cases s<;>cases t
 all_goals
  go_enter Tryz.func179,Tryz.ntmps179
  go_wp2_with (first|(go_at_call 180;refine (HA.out _).mono ?_;rintro e w1 ⟨rfl,hB1⟩;have hk:=z0b HN.out hB1 (by simp);have n0:=cell_of hk 0;have n1:=cell_of hk 1;have n2:=cell_of hk 2;have HN:=hid hk;clear hk)|(go_at_call 52;refine (HR.out _).mono ?_;rintro e w2 ⟨rfl,hB2⟩;have hk:=z0b HN.out hB2 (lt_of_block HN.out);have m0:=cell_of hk 0;have m1:=cell_of hk 1;have m2:=cell_of hk 2;clear hk)|(go_at_call 181;refine (HH'.out _).mono ?_;rintro e w3 ⟨rfl,hB3⟩))
  go_ret
  refine⟨rfl,?_⟩
  have hb0:Below w.heap.size w (w.alloc (.cells #[.int .i64 tn,.int .u32 gn,.int .u8 rt] 51)):=(Below.refl _ _).alloc (Nat.le_refl _) _
  have hb1:=z0d hb0 hB1 (by simp)
  first|exact hb1|(have hb2:=z0d hb1 hB2 hb1.size;first|exact hb2|exact z0d hb2 hB3 hb2.size)
end Go.Proofs.YtgdmfledhhoedaaGreatDoor.T
namespace Go.Burg
open Go Go.RowKit
structure Ten where
 gen:Int
 slot:Int
 agen:Int
 purse:Option Nat
def Ten.zero:Ten:=⟨0,0,0,none⟩
def TRow (t:Ten):List Value:=[.int .u32 t.gen,.int .i64 t.slot,.int .u32 t.agen,.pointer (t.purse.map fun b=>⟨b,0,none⟩)]
def TabAt (tt:TypeId) (w:World) (x t:Nat) (l:Nat->Ten):Prop :=
 ∃ cs,w.heap[x]?=some (.cells cs tt (0,0))/\cs[0]?=some (.pointer (some ⟨t,0,none⟩))/\∀ i,i<17->∀ j,j<4->cs[1+i * 4+j]?=(TRow (l i))[j]?
section
variable {tt:TypeId} {w w':World} {x t:Nat} {l:Nat->Ten}
theorem TabAt.lt (h:TabAt tt w x t l):x<w.heap.size:=by
 obtain⟨cs,h1,_⟩:=h
 exact lt_of_block h1
theorem TabAt.same (h:TabAt tt w x t l) (e:w'.heap[x]?=w.heap[x]?):TabAt tt w' x t l:=by
 obtain⟨cs,h1,h2⟩:=h
 exact⟨cs,e.trans h1,h2⟩
theorem TabAt.keep (h:TabAt tt w x t l) (k:Below w.heap.size w w'):TabAt tt w' x t l:=h.same (k.block x h.lt)
theorem TabAt.below {B:Nat} (h:TabAt tt w x t l) (k:Below B w w') (h1:x<B):TabAt tt w' x t l:=h.same (k.block x h1)
theorem TabAt.alloc (h:TabAt tt w x t l) (o:Obj):TabAt tt (w.alloc o) x t l:=h.same (Below.heap_alloc _ _ _ h.lt)
theorem TabAt.mod {S:Nat->Prop} (h:TabAt tt w x t l) (k:Mod S w w') (h1:¬ S x):TabAt tt w' x t l:=h.same (k.block x h.lt h1)
theorem TabAt.head (h:TabAt tt w x t l):w.cell? ⟨x,0,none⟩=some (.pointer (some ⟨t,0,none⟩))/\∀ j,w.frozen? ⟨x,j,none⟩=false:=by
 obtain⟨cs,h1,h2,_⟩:=h
 exact⟨(cell_of h1 0).trans h2,z0e h1⟩
theorem TabAt.cell (h:TabAt tt w x t l) {n:Nat} (hn:n<17) :
 w.cell? ⟨x,1+n * 4,none⟩=some (.int .u32 (l n).gen)/\w.cell? ⟨x,1+n * 4+1,none⟩=some (.int .i64 (l n).slot)/\w.cell? ⟨x,1+n * 4+2,none⟩=some (.int .u32 (l n).agen)/\w.cell? ⟨x,1+n * 4+3,none⟩=some (.pointer ((l n).purse.map fun b=>⟨b,0,none⟩)):=by
 obtain⟨cs,h1,_,h3⟩:=h
 have hc:=cell_of h1
 have h4:=h3 n hn
 exact⟨(hc _).trans (h4 0 (by omega)),(hc _).trans (h4 1 (by omega)),(hc _).trans (h4 2 (by omega)),(hc _).trans (h4 3 (by omega))⟩
end
end Go.Burg
namespace Go.Proofs.YtgdmfledhhoedaaGreatDoor.T
set_option maxRecDepth 8000
open Go.ChangeShapes Go.WideShapes Go.ChangeAt Go.RowKit Go.Burg
variable {a b c n p t x:Nat} {l:Nat->Ten}
theorem bmade_at (w:World) (h:TabAt 87 w x t l):Calls Tryz.prog 89 #[.pointer (some ⟨x,0,none⟩)] w fun e w'=>e=.returned (.bool true)/\w=w':=by
 obtain⟨c0,cf⟩:=h.head
 go_enter Tryz.func89,Tryz.ntmps89
 go_wp2
 go_ret
 exact⟨rfl,rfl⟩
theorem z1i (w:World) (h:TabAt 87 w x t l):Calls Tryz.prog 55 #[.pointer (some ⟨x,0,none⟩)] w fun e w'=>e=.returned (.bool true)/\w=w':=by
 go_enter Tryz.func55,Tryz.ntmps55
 go_wp2_with (go_at_call 89;refine (bmade_at _ h).mono ?_;rintro e w2 ⟨rfl,rfl⟩)
 go_ret
 exact⟨rfl,rfl⟩
theorem of_none (f:Value) (w:World) (h:TabAt 87 w x t l) (h1:1<=n) (h2:n<=16) (hp:(l n).purse=none) :
 Calls Tryz.prog 23 #[.pointer (some ⟨x,0,none⟩),.int .i64 n,f] w fun e w'=>e=.returned (.int .i64 5)/\w=w':=by
 have HT:=hid (z1i w h)
 obtain⟨_,cf⟩:=h.head
 obtain⟨c0,c1,c2,c3⟩:=h.cell (show n<17 by omega)
 rw[hp] at c3
 simp only[Option.map_none] at c3
 clear c0 c1 c2 hp h
 have g1:decide ((n:Int)<1)=false:=by simp;omega
 have g2:decide ((n:Int) > 16)=false:=by simp;omega
 go_enter Tryz.func23,Tryz.ntmps23
 go_wp2_with (go_at_call 55;refine HT.out.mono ?_;rintro e w2 ⟨rfl,rfl⟩)
 go_ret
 exact⟨rfl,rfl⟩
theorem create1_any (v:Value) (w:World):Calls Tryz.prog 24 #[v] w fun e w'=>e=.returned (.tuple #[])/\w=w':=by
 go_enter Tryz.func24,Tryz.ntmps24
 go_wp2
 go_end0
 exact⟨rfl,rfl⟩
theorem of_create (w:World) (h:TabAt 87 w x t l) (h1:1<=n) (h2:n<=16) (hp:(l n).purse=some p) :
 Calls Tryz.prog 23 #[.pointer (some ⟨x,0,none⟩),.int .i64 n,.func (.func 24) #[] #[]] w fun e w'=>e=.returned (.int .i64 0)/\w=w':=by
 have HT:=hid (z1i w h)
 obtain⟨_,cf⟩:=h.head
 obtain⟨c0,c1,c2,c3⟩:=h.cell (show n<17 by omega)
 rw[hp] at c3
 simp only[Option.map_some] at c3
 clear c0 c1 c2 hp
 have g1:decide ((n:Int)<1)=false:=by simp;omega
 have g2:decide ((n:Int) > 16)=false:=by simp;omega
 go_enter Tryz.func23,Tryz.ntmps23
 go_wp2_with (first|(go_at_call 55;refine HT.out.mono ?_;rintro e w2 ⟨rfl,rfl⟩)|(go_at_call 24;refine (create1_any _ _).mono ?_;rintro e w2 ⟨rfl,rfl⟩))
 go_ret
 exact⟨rfl,rfl⟩
theorem drew_heap (w:World):w.drew.heap=w.heap:=rfl
theorem set6 {w:World} {T:TypeId} {v0 v1 v2 x0 x1 x2 y0 y1 y2:Value} (h:w.heap[c]?=some (.cells #[v0,v1,v2] T (0,0))) :
 ((((((w.setCell ⟨c,0,none⟩ x0).setCell ⟨c,1,none⟩ x1).setCell ⟨c,2,none⟩ x2).setCell ⟨c,0,none⟩ y0).setCell ⟨c,1,none⟩ y1).setCell ⟨c,2,none⟩ y2).drew.heap[c]?=some (.cells #[y0,y1,y2] T (0,0)):=by
 have k0:=z0y (i:=0) (v:=x0) (cs':=#[x0,v1,v2]) h rfl
 have k1:=z0y (i:=1) (v:=x1) (cs':=#[x0,x1,v2]) k0 rfl
 have k2:=z0y (i:=2) (v:=x2) (cs':=#[x0,x1,x2]) k1 rfl
 have k3:=z0y (i:=0) (v:=y0) (cs':=#[y0,x1,x2]) k2 rfl
 have k4:=z0y (i:=1) (v:=y1) (cs':=#[y0,y1,x2]) k3 rfl
 have k5:=z0y (i:=2) (v:=y2) (cs':=#[y0,y1,y2]) k4 rfl
 rw[drew_heap]
 exact k5
set_option maxHeartbeats 2000000 in
theorem issue1_any (w:World) (h:TabAt 87 w x t l) (h2:n<=16) (N R:Int) (ha:w.heap[a]?=some (.cells #[.int .i64 N] 3 (0,0))) (hb:w.heap[b]?=some (.cells #[.int .u8 R] 49 (0,0)))
 (hc:w.heap[c]?=some (.cells #[.int .i64 0,.int .u32 0,.int .u8 0] 51 (0,0))) :
 Calls Tryz.prog 45 #[.pointer (some ⟨x,1+n * 4,none⟩),.pointer (some ⟨a,0,none⟩),.pointer (some ⟨b,0,none⟩),.pointer (some ⟨c,0,none⟩)] w fun e w'=>e=.returned (.tuple #[])/\w'.heap[c]?=some (.cells #[.int .i64 N,.int .u32 (l n).gen,.int .u8 R] 51 (0,0))/\Mod (·=c) w w':=by
 obtain⟨c0,_,_,_⟩:=h.cell (show n<17 by omega)
 have a0:=cell_of ha 0
 have b0:=cell_of hb 0
 have d0:=cell_of hc 0
 have d1:=cell_of hc 1
 have d2:=cell_of hc 2
 have df:=z0e hc
 have ne1:c≠a:=fun e=>by subst e;rw[hc] at ha;simp at ha
 have ne2:c≠b:=fun e=>by subst e;rw[hc] at hb;simp at hb
 have ne:c≠x:=fun e=>by subst e;have:=h.head.1;rw[d0] at this;simp at this
 generalize (l n).gen=gen at c0
 go_enter Tryz.func45,Tryz.ntmps45
 go_region
 go_end0
 refine⟨rfl,?_,?_⟩
 ·exact set6 hc
 ·exact (((((((Mod.refl (·=c) w).setCell (p:=⟨c,0,none⟩) (.inl rfl) _).setCell (p:=⟨c,1,none⟩) (.inl rfl) _).setCell (p:=⟨c,2,none⟩) (.inl rfl) _).setCell (p:=⟨c,0,none⟩) (.inl rfl) _).setCell (p:=⟨c,1,none⟩) (.inl rfl) _).setCell (p:=⟨c,2,none⟩) (.inl rfl) _).drew
theorem of_issue (w:World) (h:TabAt 87 w x t l) (h1:1<=n) (h2:n<=16) (hp:(l n).purse=some p) (N R:Int) (ha:w.heap[a]?=some (.cells #[.int .i64 N] 3 (0,0))) (hb:w.heap[b]?=some (.cells #[.int .u8 R] 49 (0,0)))
 (hc:w.heap[c]?=some (.cells #[.int .i64 0,.int .u32 0,.int .u8 0] 51 (0,0))) :
 Calls Tryz.prog 23 #[.pointer (some ⟨x,0,none⟩),.int .i64 n,.func (.func 45) #[] #[.pointer (some ⟨a,0,none⟩),.pointer (some ⟨b,0,none⟩),.pointer (some ⟨c,0,none⟩)]] w fun e w'=>e=.returned (.int .i64 0)/\w'.heap[c]?=some (.cells #[.int .i64 N,.int .u32 (l n).gen,.int .u8 R] 51 (0,0))/\Mod (·=c) w w':=by
 have HI:=hid (issue1_any w h h2 N R ha hb hc)
 clear ha hb hc
 have HT:=hid (z1i w h)
 obtain⟨_,cf⟩:=h.head
 obtain⟨c0,c1,c2,c3⟩:=h.cell (show n<17 by omega)
 rw[hp] at c3
 simp only[Option.map_some] at c3
 clear c0 c1 c2 hp
 have g1:decide ((n:Int)<1)=false:=by simp;omega
 have g2:decide ((n:Int) > 16)=false:=by simp;omega
 go_enter Tryz.func23,Tryz.ntmps23
 go_wp2_with (first|(go_at_call 55;refine HT.out.mono ?_;rintro e w2 ⟨rfl,rfl⟩)|(go_at_call 45;refine HI.out.mono ?_;rintro e w2 ⟨rfl,hC,hM⟩))
 go_ret
 exact⟨rfl,hC,hM⟩
open Go.Burg.Lk
theorem flat_get {row:List Value} (hr:row.length=4):∀ n i j,i<n->j<4->((List.replicate n row).flatten)[i * 4+j]?=row[j]?:=by
 intro n
 induction n with
 | zero=>intro i j h;omega
 | succ n ih =>
  intro i j hi hj
  rw[List.replicate_succ,List.flatten_cons]
  cases i with
  | zero=>rw[Nat.zero_mul,Nat.zero_add,List.getElem?_append_left (by omega)]
  | succ i =>
   rw[List.getElem?_append_right (by omega),hr,show (i+1) * 4+j - 4=i * 4+j by omega]
   exact ih i j (by omega) hj
theorem tabNew_at (t:Nat) (w:World):Calls Tryz.prog 22 #[.pointer (some ⟨t,0,none⟩)] w fun e w'=>∃ x,e=.returned (.tuple #[.pointer (some ⟨x,0,none⟩),.int .i64 0])/\TabAt 87 w' x t (fun _=>Ten.zero)/\w.heap.size<=x/\Below w.heap.size w w':=by
 go_enter Tryz.func22,Tryz.ntmps22
 go_wp2
 go_ret2
 refine⟨w.heap.size,rfl,?_,Nat.le_refl _,(Below.refl _ _).alloc (Nat.le_refl _) _⟩
 refine⟨_,z0a _ _,rfl,fun i hi j hj=>?_⟩
 change (List.toArray (Value.pointer (some ⟨t,0,none⟩) :: (List.replicate 17 (TRow Ten.zero)).flatten))[1+i * 4+j]?=(TRow Ten.zero)[j]?
 rw[List.getElem?_toArray,show 1+i * 4+j=(i * 4+j)+1 by omega,List.getElem?_cons_succ]
 exact flat_get rfl 17 i j hi hj
end Go.Proofs.YtgdmfledhhoedaaGreatDoor.T
namespace Go.Burg
open Go
variable {F:Act} {id:Nat} {w0:World}
section
variable {P:Program} {l:List Oper} {Q:Exit->Act->World->Prop} {a0:Act}
theorem wp_region_exactI (m:Nat) (I:(Nat->Bool)->World->Prop) (hm:P.follows .mixedOrders=true) (hg:good m l=true)
 (_find:wpList P l.toArray (z2m fun a _=>a=F) (l.take m) a0 w0)
 (hF:F=fill a0 (dsts 0 (l.take m)) (fun j=>F.tmps.getD (dstOf l j) undef)) (hlt:(dsts 0 (l.take m)).all (fun p=>decide (p.2<F.tmps.size))=true)
 (h0:I (fun _=>false) w0.drew) (hs:z1c (fun k o=>∀ D w,D k=false->(∀ j∈waits o,D j=true)->I D w->wpList P l.toArray (z2m fun a w'=>a=F/\I (fun j=>D j || j == k) w') [o] F w) 0 (l.take m))
 (hend:∀ D w,(∀ j,j<m->D j=true)->I D w->wpList P l.toArray Q (l.drop m) F w):(Code.region id l.toArray true).wp P Q a0 w0:=by
 have hg':=hg
 simp only[good,Bool.and_eq_true,decide_eq_true_eq] at hg'
 obtain⟨⟨⟨hg1,hg2⟩,hml⟩,_⟩:=hg'
 have htk:∀ i,i<m->(l.take m)[i]?=l[i]?:=fun i hi=>by simp[hi]
 generalize hxs:(fun j=>F.tmps.getD (dstOf l j) undef)=xs at hF
 have hmem':∀ p∈dsts 0 (l.take m),p.1<m/\(l[p.1]?).bind (fun o=>o.dst)=some p.2:=fun p hp=>by
  obtain⟨i',o',hi',hj',hd'⟩:=(z2o (l.take m) 0 p.1 p.2).1 hp
  have h1:=(List.getElem?_eq_some_iff.1 hi').1
  simp only[List.length_take] at h1
  have h2:p.1=i':=by omega
  rw[htk i' (by omega)] at hi'
  exact⟨by omega,by rw[h2,hi'];exact hd'⟩
 refine wp_region_inv m hm hg (fun j v _=>∀ d,(l[j]?).bind (·.dst)=some d->v=xs j) I h0 ?_ ?_
 ·intro i o him ho D ys w hD hwait hV hI
  have ho':(l.take m)[i]?=some o:=by rw[htk i him];exact ho
  have hok:looksOk l.toArray (dsts 0 (l.take m)) i o=true:=by simpa using goodOps_spec (l.take m) 0 hg2 i o ho'
  have h1:=AllOpsI_spec (l.take m) 0 hs i o ho' D w (by simpa using hD) hwait hI
  simp only[Nat.zero_add] at h1
  have hstep:DoesG P l.toArray o F w (fun v w'=>(∀ d,o.dst=some d->v=xs i)/\I (fun j=>D j || j == i) w'):=by
   refine z3b ?_
   have hmono:∀ (K K':Act->World->Prop),(∀ a w,K a w->K' a w)->wpList P l.toArray (z2m K) [o] F w->wpList P l.toArray (z2m K') [o] F w:=by
    intro K K' hKK h
    unfold wpList at *
    split
    ·rename_i hw
     rw[if_pos hw] at h
     rcases h with h|⟨_,_,_,hl⟩
     ·refine .inl ?_
      unfold Oper.wp at *
      generalize (execOp F.eval o).run P w=r at *
      cases r with
      | ok n w' =>
       cases n<;>simp only[Oper.upon] at h ⊢
       case value v=>exact hKK _ _ h
       case skip=>exact hKK _ _ h
       case defer d=>exact hKK _ _ h
       case enter f args =>
        refine Calls.mono h fun e w'' he=>?_
        cases e with
        | returned v=>exact hKK _ _ he
        | panicked c=>exact he.elim
        | outgrown=>obtain⟨_,_,he⟩:=he;exact he.elim
       case row row args=>exact Rows.mono h fun v w'' hv=>hKK _ _ hv
      | halt x w'=>cases x<;>simp only[Oper.upon] at h<;>exact h.elim
     ·exact hl.elim
    ·rename_i hw
     rw[if_neg hw] at h
     exact hKK _ _ h
   refine hmono _ _ ?_ h1
   rintro a w' ⟨rfl,hR⟩
   refine⟨rfl,fun v hv=>⟨fun d hd=>?_,hR⟩⟩
   have hmem:(i,d)∈dsts 0 (l.take m):=(z2o (l.take m) 0 i d).2 ⟨i,o,ho',by omega,hd⟩
   have hlt':d<a.tmps.size:=by
    have:=List.all_eq_true.1 hlt (i,d) hmem
    simpa using this
   have e1:a.tmps.getD d undef=v:=by
    have h3:=congrArg (fun b:Act=>b.tmps.getD d undef) hv
    simp only[hd] at h3
    rw[h3]
    simp[Act.put,hlt']
   rw[<- hxs,<- e1]
   simp[dstOf,ho,hd]
  rw[hF] at hstep
  have hstep2:DoesG P l.toArray o (fill a0 (dsts 0 (l.take m)) ys) w (fun v w'=>(∀ d,o.dst=some d->v=xs i)/\I (fun j=>D j || j == i) w'):=by
   have hEq:DoesG P l.toArray o (fill a0 (dsts 0 (l.take m)) (fun j=>if ((l[j]?).bind (fun o=>o.dst)).isSome then xs j else ys j)) w (fun v w'=>(∀ d,o.dst=some d->v=xs i)/\I (fun j=>D j || j == i) w'):=by
    rw[fill_congr (xs':=xs)]
    ·exact hstep
    ·intro p hp
     rw[(hmem' p hp).2]
     simp
   refine DoesG_congr hok (fun j hj=>?_) hEq
   split
   ·rename_i h
    obtain⟨d,hd⟩:=Option.isSome_iff_exists.1 h
    exact (hV j (hwait j hj) d hd).symm
   ·rfl
  unfold DoesG Does at *
  have fin:∀ v w',((∀ d,o.dst=some d->v=xs i)/\I (fun j=>D j || j == i) w')->((∀ d,(l[i]?).bind (fun o=>o.dst)=some d->v=xs i)/\(∀ j,D j=true->∀ d,(l[j]?).bind (fun o=>o.dst)=some d->ys j=xs j)/\I (fun j=>D j || j == i) w'):=fun v w' h =>
   ⟨fun d hd=>h.1 d (by simpa[ho] using hd),fun j hj=>hV j hj,h.2⟩
  split
  ·rename_i hw
   rw[if_pos hw] at hstep2
   generalize (execOp (fill a0 (dsts 0 (l.take m)) ys).eval o).run P w=r at *
   cases r with
   | ok n w' =>
    cases n<;>simp only[] at hstep2 ⊢
    case value v=>exact fin _ _ hstep2
    case skip=>exact fin _ _ hstep2
    case enter f args=>exact Calls.mono hstep2 fun e w'' ⟨v,he,hv⟩=>⟨v,he,fin _ _ hv⟩
    case row row args=>exact Rows.mono hstep2 fun v w'' hv=>fin _ _ hv
   | halt x w'=>exact hstep2
  ·rename_i hw
   rw[if_neg hw] at hstep2
   exact fin _ _ hstep2
 ·intro D ys w hD hV hI
  rw[fill_congr (xs':=xs),<- hF]
  ·exact hend D w hD hI
  ·intro p hp
   exact hV p.1 (hmem' p hp).1 p.2 (hmem' p hp).2
theorem wp_region_exact (m:Nat) (R:World->Prop) (hm:P.follows .mixedOrders=true) (hg:good m l=true)
 (_find:wpList P l.toArray (z2m fun a _=>a=F) (l.take m) a0 w0)
 (hF:F=fill a0 (dsts 0 (l.take m)) (fun j=>F.tmps.getD (dstOf l j) undef)) (hlt:(dsts 0 (l.take m)).all (fun p=>decide (p.2<F.tmps.size))=true)
 (h0:R w0.drew) (hs:AllOps (fun o=>∀ w,R w->wpList P l.toArray (z2m fun a w'=>a=F/\R w') [o] F w) (l.take m))
 (hend:∀ w,R w->wpList P l.toArray Q (l.drop m) F w):(Code.region id l.toArray true).wp P Q a0 w0 :=
 wp_region_exactI m (fun _ w=>R w) hm hg _find hF hlt h0 (AllOpsI_of _ 0 fun _ o ho _ w _ _ hR=>AllOps_spec hs o ho w hR) (fun _ w _ hR=>hend w hR)
end
end Go.Burg
namespace Go.Proofs.YtgdmfledhhoedaaGreatDoor
set_option maxRecDepth 8000
open Go.ChangeShapes Go.WideShapes Go.ChangeAt Go.RowKit Go.Burg
theorem plus_any (a b c d:Int) (w:World) :
 Calls Tryz.prog 157 #[.agg #[.int .u64 a,.int .u64 b],.agg #[.int .u64 c,.int .u64 d]] w fun e w'=>e=.returned (.agg #[.int .u64 (IntKind.u64.wrap (a+c)),.int .u64 (IntKind.u64.wrap (b+d))])/\Below w.heap.size w w':=by
 go_enter Tryz.func157,Tryz.ntmps157
 go_wp2
 refine bodyPost_ret (v:=.agg #[_,_]) (by simp[results,Tryz.results157,go_sem]) rfl ⟨rfl,?_⟩
 (repeat (first|exact Below.refl _ _|assumption|refine Below.drew ?_|refine Below.setCell ?_ (by simp) _|refine Below.alloc ?_ (by first|exact Nat.le_refl _|(simp;done)|(simp;omega)) _))
theorem minus_any (a b c d:Int) (w:World) :
 Calls Tryz.prog 162 #[.agg #[.int .u64 a,.int .u64 b],.agg #[.int .u64 c,.int .u64 d]] w fun e w'=>e=.returned (.agg #[.int .u64 (IntKind.u64.wrap (a - c)),.int .u64 (IntKind.u64.wrap (b - d))])/\Below w.heap.size w w':=by
 go_enter Tryz.func162,Tryz.ntmps162
 go_wp2
 refine bodyPost_ret (v:=.agg #[_,_]) (by simp[results,Tryz.results162,go_sem]) rfl ⟨rfl,?_⟩
 (repeat (first|exact Below.refl _ _|assumption|refine Below.drew ?_|refine Below.setCell ?_ (by simp) _|refine Below.alloc ?_ (by first|exact Nat.le_refl _|(simp;done)|(simp;omega)) _))
def mn (a b:Int):Int:=if a<=b then a else b
variable {a:Int}
theorem mn_le {b:Int} (h:a<=b):mn a b=a:=if_pos h
theorem mn_gt {b:Int} (h:¬ a<=b):mn a b=b:=if_neg h
theorem least_any (a b c d:Int) (w:World) :
 Calls Tryz.prog 163 #[.agg #[.int .u64 a,.int .u64 b],.agg #[.int .u64 c,.int .u64 d]] w fun e w'=>e=.returned (.agg #[.int .u64 (mn a c),.int .u64 (mn b d)])/\Below w.heap.size w w':=by
 by_cases h1:a<=c<;>by_cases h2:b<=d<;>simp only[mn,h1,h2,if_true,if_false]
 all_goals
  go_enter Tryz.func163,Tryz.ntmps163
  go_wp2
  refine bodyPost_ret (v:=.agg #[_,_]) (by simp[results,Tryz.results163,go_sem]) rfl ⟨rfl,?_⟩
  (repeat (first|exact Below.refl _ _|assumption|refine Below.drew ?_|refine Below.setCell ?_ (by simp) _|refine Below.alloc ?_ (by first|exact Nat.le_refl _|(simp;done)|(simp;omega)) _))
def PBlk (mk mb hk hb kk kb last:Int) (mp:Option Nat):Obj :=
 .cells #[.int .u64 mk,.int .u64 mb,.int .u64 hk,.int .u64 hb,.int .u64 kk,.int .u64 kb,.map mp,.int .i64 last] 141 (0,0)
variable {b:Nat} {w:World}
theorem z2n {mk mb hk hb kk kb last:Int} {mp:Option Nat} (h:w.heap[b]?=some (PBlk mk mb hk hb kk kb last mp)) :
 w.cell? ⟨b,0,none⟩=some (.int .u64 mk)/\w.cell? ⟨b,1,none⟩=some (.int .u64 mb)/\w.cell? ⟨b,2,none⟩=some (.int .u64 hk)/\w.cell? ⟨b,3,none⟩=some (.int .u64 hb) /\
 w.cell? ⟨b,4,none⟩=some (.int .u64 kk)/\w.cell? ⟨b,5,none⟩=some (.int .u64 kb)/\w.cell? ⟨b,6,none⟩=some (.map mp)/\w.cell? ⟨b,7,none⟩=some (.int .i64 last) /\
 (∀ i,w.frozen? ⟨b,i,none⟩=false)/\b<w.heap.size:=by
 have hc:=cell_of h
 exact⟨hc 0,hc 1,hc 2,hc 3,hc 4,hc 5,hc 6,hc 7,z0e h,lt_of_block h⟩
theorem z0b {w1:World} {B:Nat} {o:Obj} (h:w.heap[b]?=some o) (hb:Below B w w1) (hB:b<B):w1.heap[b]?=some o:=(hb.block b hB).trans h
theorem z0c {o o':Obj} (h:w.heap[b]?=some o):(w.alloc o').heap[b]?=some o:=(Below.heap_alloc _ _ _ (lt_of_block h)).trans h
theorem bound_any (b:Nat) (mk mb hk hb kk kb last:Int) (mp:Option Nat) (w:World) (h:w.heap[b]?=some (PBlk mk mb hk hb kk kb last mp)) :
 Calls Tryz.prog 164 #[.pointer (some ⟨b,0,none⟩)] w fun e w'=>e=.returned (.agg #[.int .u64 (IntKind.u64.wrap (hk+kk)),.int .u64 (IntKind.u64.wrap (hb+kb))])/\Below w.heap.size w w':=by
 obtain⟨c0,c1,c2,c3,c4,c5,c6,c7,cf,cl⟩:=z2n h
 go_enter Tryz.func164,Tryz.ntmps164
 go_wp2
 have hA:=z0c (o':=(.cells #[.int .u64 0,.int .u64 0] 33)) h
 have hN:=z0a w (.cells #[.int .u64 0,.int .u64 0] 33)
 refine wp_region_exact (F:=?F) 9 (fun w1=>Below ((w.alloc (.cells #[.int .u64 0,.int .u64 0] 33))).heap.size ((w.alloc (.cells #[.int .u64 0,.int .u64 0] 33))) w1) (by kernel_rfl) (by kernel_rfl) ?find ?hF ?hlt ?h0 ?hs ?hend
 case find =>
  dsimp only[List.take]
  go_wp2_with (go_at_call 157;refine (plus_any _ _ _ _ _).mono ?_;rintro e w' ⟨rfl,hb⟩)
  exact rfl
 case hF=>kernel_rfl
 case hlt=>kernel_rfl
 case h0=>exact⟨rfl,rfl,rfl,Nat.le_refl _,fun _ _=>rfl⟩
 case hs =>
  dsimp only[List.take,AllOps]
  (repeat' apply And.intro)
  all_goals
   intro w1 hw1
   have h':=z0b hA hw1 (by simp;omega)
   clear c0 c1 c2 c3 c4 c5 c6 c7 cf
   obtain⟨c0,c1,c2,c3,c4,c5,c6,c7,cf,cl⟩:=z2n h'
   go_wp2_with (go_at_call 157;refine (plus_any _ _ _ _ _).mono ?_;rintro e w' ⟨rfl,hb⟩)
  all_goals exact⟨rfl,by first|assumption|(simpa using z0d hw1 hb hw1.size)⟩
 case hend =>
  intro w1 hw1
  have hr:=z0b hN hw1 (by simp)
  have r0:=cell_of hr 0
  have r1:=cell_of hr 1
  have rf:=z0e hr
  dsimp only[List.drop]
  clear c0 c1 c2 c3 c4 c5 c6 c7 cf
  go_wp2
  refine bodyPost_ret (v:=.agg #[_,_]) (by simp[results,Tryz.results164,go_sem,r0,r1]) rfl ⟨rfl,?_⟩
  exact (((Below.refl _ _).alloc (Nat.le_refl _) _).trans (hw1.mono (by simp))).setCell (Nat.le_refl _) _ |>.setCell (Nat.le_refl _) _
theorem left_any (b:Nat) (mk mb hk hb kk kb last:Int) (mp:Option Nat) (w:World) (h:w.heap[b]?=some (PBlk mk mb hk hb kk kb last mp)) :
 Calls Tryz.prog 160 #[.pointer (some ⟨b,0,none⟩)] w fun e w'=>e=.returned (.agg #[.int .u64 (IntKind.u64.wrap (mk - IntKind.u64.wrap (hk+kk))),.int .u64 (IntKind.u64.wrap (mb - IntKind.u64.wrap (hb+kb)))])/\Below w.heap.size w w':=by
 obtain⟨c0,c1,c2,c3,c4,c5,c6,c7,cf,cl⟩:=z2n h
 go_enter Tryz.func160,Tryz.ntmps160
 go_wp2
 have hA:=z0c (o':=(.cells #[.int .u64 0,.int .u64 0] 33)) h
 have hN:=z0a w (.cells #[.int .u64 0,.int .u64 0] 33)
 refine wp_region_exact (F:=?F) 7 (fun w1=>Below ((w.alloc (.cells #[.int .u64 0,.int .u64 0] 33))).heap.size ((w.alloc (.cells #[.int .u64 0,.int .u64 0] 33))) w1) (by kernel_rfl) (by kernel_rfl) ?find ?hF ?hlt ?h0 ?hs ?hend
 case find =>
  dsimp only[List.take]
  go_wp2_with (first|(go_at_call 164;refine (bound_any b mk mb hk hb kk kb last mp _ (by first|exact h' | exact hA)).mono ?_;rintro e w' ⟨rfl,hb⟩)|(go_at_call 162;refine (minus_any _ _ _ _ _).mono ?_;rintro e w' ⟨rfl,hb⟩))
  exact rfl
 case hF=>kernel_rfl
 case hlt=>kernel_rfl
 case h0=>exact⟨rfl,rfl,rfl,Nat.le_refl _,fun _ _=>rfl⟩
 case hs =>
  dsimp only[List.take,AllOps]
  (repeat' apply And.intro)
  all_goals
   intro w1 hw1
   have h':=z0b hA hw1 (by simp;omega)
   clear c0 c1 c2 c3 c4 c5 c6 c7 cf
   obtain⟨c0,c1,c2,c3,c4,c5,c6,c7,cf,cl⟩:=z2n h'
   go_wp2_with (first|(go_at_call 164;refine (bound_any b mk mb hk hb kk kb last mp _ (by first|exact h' | exact hA)).mono ?_;rintro e w' ⟨rfl,hb⟩)|(go_at_call 162;refine (minus_any _ _ _ _ _).mono ?_;rintro e w' ⟨rfl,hb⟩))
  all_goals exact⟨rfl,by first|assumption|(simpa using z0d hw1 hb hw1.size)⟩
 case hend =>
  intro w1 hw1
  have hr:=z0b hN hw1 (by simp)
  have r0:=cell_of hr 0
  have r1:=cell_of hr 1
  have rf:=z0e hr
  dsimp only[List.drop]
  clear c0 c1 c2 c3 c4 c5 c6 c7 cf
  go_wp2
  refine bodyPost_ret (v:=.agg #[_,_]) (by simp[results,Tryz.results160,go_sem,r0,r1]) rfl ⟨rfl,?_⟩
  exact (((Below.refl _ _).alloc (Nat.le_refl _) _).trans (hw1.mono (by simp))).setCell (Nat.le_refl _) _ |>.setCell (Nat.le_refl _) _
theorem none_no (b m:Nat) (mk mb hk hb kk kb last:Int) (w:World) (h:w.heap[b]?=some (PBlk mk mb hk hb kk kb last (some m))) :
 Calls Tryz.prog 87 #[.pointer (some ⟨b,0,none⟩)] w fun e w'=>e=.returned (.bool false)/\w=w':=by
 obtain⟨c0,c1,c2,c3,c4,c5,c6,c7,cf,cl⟩:=z2n h
 have qT:∀ (w:World) (r:Option Nat),(binOp .eql 139 (.map r) (.map none)).run Tryz.prog w=.ok (.bool r.isNone) w:=fun w r=>run_eql_map_nil w _ _ _ r Tryz.underlying139
 go_enter Tryz.func87,Tryz.ntmps87
 go_wp2
 go_ret
 exact⟨rfl,rfl⟩
theorem has_any (b m:Nat) (mk mb hk hb kk kb last:Int) (w:World) (h:w.heap[b]?=some (PBlk mk mb hk hb kk kb last (some m))) :
 Calls Tryz.prog 50 #[.pointer (some ⟨b,0,none⟩)] w fun e w'=>e=.returned (.agg #[.int .u64 hk,.int .u64 hb])/\Below w.heap.size w w':=by
 have hA:=z0c (o':=(.cells #[.int .u64 0,.int .u64 0] 33)) h
 obtain⟨c0,c1,c2,c3,c4,c5,c6,c7,cf,cl⟩:=z2n h
 go_enter Tryz.func50,Tryz.ntmps50
 go_wp2_with (go_at_call 87;refine (none_no b m mk mb hk hb kk kb last _ hA).mono ?_;rintro e w' ⟨rfl,rfl⟩)
 refine bodyPost_ret (v:=.agg #[_,_]) (by simp[results,Tryz.results50,go_sem]) rfl ⟨rfl,?_⟩
 (repeat (first|exact Below.refl _ _|assumption|refine Below.drew ?_|refine Below.setCell ?_ (by simp) _|refine Below.alloc ?_ (by first|exact Nat.le_refl _|(simp;done)|(simp;omega)) _))
def lim (x:Int × Int):Value:=.agg #[.int .u64 x.1,.int .u64 x.2]
theorem keyInt:KeyOk Tryz.prog 3 (Value.int .i64):=KeyOk.int Tryz.underlying3
theorem zeroLim (w:World):(zeroValue 33).run Tryz.prog w=.ok (lim (0,0)) w:=by kernel_rfl
theorem new_any (mk mb:Int) (w:World) :
 Calls Tryz.prog 26 #[.agg #[.int .u64 mk,.int .u64 mb]] w fun e w'=>∃ b m,e=.returned (.pointer (some ⟨b,0,none⟩))/\w'.heap[b]?=some (PBlk mk mb 0 0 0 0 0 (some m))/\z0q (Value.int .i64) lim w' m []/\w.heap.size<=b/\w.heap.size<=m/\b≠m/\Below w.heap.size w w':=by
 have hmm:=@run_makeMap Tryz.prog
 go_enter Tryz.func26,Tryz.ntmps26
 go_wp2
 go_ret
 refine⟨w.heap.size+1+1,w.heap.size+1,rfl,?_,?_,by omega,by omega,by omega,?_⟩
 ·simpa[PBlk] using z0a ((w.alloc (.cells #[.int .u64 mk,.int .u64 mb] 33)).alloc (.map #[] 0)) (PBlk mk mb 0 0 0 0 0 (some (w.heap.size+1)))
 ·have h0:=z0a (w.alloc (.cells #[.int .u64 mk,.int .u64 mb] 33)) (.map #[] 0)
  refine z0q.alloc ?_ _
  exact⟨#[],0,by simpa using h0,by simp,by simp,by simp⟩
 ·(repeat (first|exact Below.refl _ _|assumption|refine Below.drew ?_|refine Below.setCell ?_ (by simp) _|refine Below.alloc ?_ (by first|exact Nat.le_refl _|(simp;done)|(simp;omega)) _))
theorem reserve1_any (c b m:Nat) (mk mb hk hb kk kb last:Int) (w:World) (h:w.heap[b]?=some (PBlk mk mb hk hb kk kb last (some m))) (hc:w.heap[c]?=some (.cells #[.pointer (some ⟨b,0,none⟩)] 82)) :
 Calls Tryz.prog 159 #[.pointer (some ⟨c,0,none⟩)] w fun e w'=>e=.returned (.agg #[.int .u64 (IntKind.u64.wrap (mk - IntKind.u64.wrap (hk+kk))),.int .u64 (IntKind.u64.wrap (mb - IntKind.u64.wrap (hb+kb)))])/\Below w.heap.size w w':=by
 have hA:=z0c (o':=(.cells #[.int .u64 0,.int .u64 0] 33)) h
 have hN:=z0a w (.cells #[.int .u64 0,.int .u64 0] 33)
 have hC:=cell_of hc 0
 have hcl:=lt_of_block hc
 obtain⟨c0,c1,c2,c3,c4,c5,c6,c7,cf,cl⟩:=z2n h
 go_enter Tryz.func159,Tryz.ntmps159
 go_wp2_with (first|(go_at_call 160;refine (left_any b mk mb hk hb kk kb last (some m) _ hA).mono ?_;rintro e w1 ⟨rfl,hb1⟩;have hr:=z0b hN hb1 (by simp);have r0:=cell_of hr 0;have r1:=cell_of hr 1;have rf:=z0e hr))
 refine bodyPost_ret (v:=.agg #[_,_]) (by simp[results,Tryz.results159,go_sem,r0,r1]) rfl ⟨rfl,?_⟩
 exact (((Below.refl _ _).alloc (Nat.le_refl _) _).trans (hb1.mono (by simp))).setCell (Nat.le_refl _) _ |>.setCell (Nat.le_refl _) _
theorem pay1_any (c b m:Nat) (mk mb hk hb kk kb last:Int) (w:World) (h:w.heap[b]?=some (PBlk mk mb hk hb kk kb last (some m))) (hc:w.heap[c]?=some (.cells #[.pointer (some ⟨b,0,none⟩)] 82)) :
 Calls Tryz.prog 177 #[.pointer (some ⟨c,0,none⟩)] w fun e w'=>e=.returned (.agg #[.int .u64 hk,.int .u64 hb])/\Below w.heap.size w w':=by
 have hC:=cell_of hc 0
 have hcl:=lt_of_block hc
 obtain⟨c0,c1,c2,c3,c4,c5,c6,c7,cf,cl⟩:=z2n h
 go_enter Tryz.func177,Tryz.ntmps177
 go_wp2
 refine bodyPost_ret (v:=.agg #[_,_]) (by simp[results,Tryz.results177,go_sem]) rfl ⟨rfl,?_⟩
 (repeat (first|exact Below.refl _ _|assumption|refine Below.drew ?_|refine Below.setCell ?_ (by simp) _|refine Below.alloc ?_ (by first|exact Nat.le_refl _|(simp;done)|(simp;omega)) _))
theorem pay2_any (c b m:Nat) (mk mb hk hb kk kb last k y:Int) (w:World) (h:w.heap[b]?=some (PBlk mk mb hk hb kk kb last (some m))) (hc:w.heap[c]?=some (.cells #[.pointer (some ⟨b,0,none⟩)] 82)) :
 Calls Tryz.prog 178 #[.agg #[.int .u64 k,.int .u64 y],.pointer (some ⟨c,0,none⟩)] w fun e w'=>e=.returned (.tuple #[])/\w'.heap[b]?=some (PBlk mk mb (IntKind.u64.wrap (hk - k)) (IntKind.u64.wrap (hb - y)) kk kb last (some m))/\Mod (·=b) w w':=by
 have hC:=cell_of hc 0
 have hcl:=lt_of_block hc
 have hA:=z0c (o':=(.cells #[.int .u64 k,.int .u64 y] 33)) h
 have hcA:=z0c (o':=(.cells #[.int .u64 k,.int .u64 y] 33)) hc
 have hN:=z0a w (.cells #[.int .u64 k,.int .u64 y] 33)
 obtain⟨c0,c1,c2,c3,c4,c5,c6,c7,cf,cl⟩:=z2n h
 go_enter Tryz.func178,Tryz.ntmps178
 go_wp2
 refine wp_region_exact (F:=?F) 8 (fun w1=>Below ((w.alloc (.cells #[.int .u64 k,.int .u64 y] 33))).heap.size ((w.alloc (.cells #[.int .u64 k,.int .u64 y] 33))) w1) (by kernel_rfl) (by kernel_rfl) ?find ?hF ?hlt ?h0 ?hs ?hend
 case find =>
  dsimp only[List.take]
  go_wp2_with (go_at_call 162;refine (minus_any _ _ _ _ _).mono ?_;rintro e w' ⟨rfl,hb⟩)
  exact rfl
 case hF=>kernel_rfl
 case hlt=>kernel_rfl
 case h0=>exact⟨rfl,rfl,rfl,Nat.le_refl _,fun _ _=>rfl⟩
 case hs =>
  dsimp only[List.take,AllOps]
  (repeat' apply And.intro)
  all_goals
   intro w1 hw1
   have h':=z0b hA hw1 (by simp;omega)
   have hC':=cell_of (z0b hcA hw1 (by simp;omega)) 0
   have hN':=z0b hN hw1 (by simp)
   have n0:=cell_of hN' 0
   have n1:=cell_of hN' 1
   clear c0 c1 c2 c3 c4 c5 c6 c7 cf hC
   obtain⟨c0,c1,c2,c3,c4,c5,c6,c7,cf,cl⟩:=z2n h'
   go_wp2_with (go_at_call 162;refine (minus_any _ _ _ _ _).mono ?_;rintro e w' ⟨rfl,hb⟩)
  all_goals exact⟨rfl,by first|assumption|(simpa using z0d hw1 hb hw1.size)⟩
 case hend =>
  intro w1 hw1
  have h':=z0b hA hw1 (by simp;omega)
  dsimp only[List.drop]
  clear c0 c1 c2 c3 c4 c5 c6 c7 cf hC
  obtain⟨c0,c1,c2,c3,c4,c5,c6,c7,cf,cl⟩:=z2n h'
  go_wp2
  go_end0
  refine⟨rfl,?_,?_⟩
  ·have:=heap_set (i:=3) (v:=.int .u64 (IntKind.u64.wrap (hb - y))) (heap_set (i:=2) (v:=.int .u64 (IntKind.u64.wrap (hk - k))) h')
   simpa[PBlk] using this
  ·exact Mod.setCell (S:=(·=b)) (p:=⟨b,3,none⟩) (Mod.setCell (S:=(·=b)) (p:=⟨b,2,none⟩) (Mod.z0j (((Below.refl _ _).alloc (Nat.le_refl _) _).trans (hw1.mono (by simp)))) (.inl rfl) _) (.inl rfl) _
def Midway (W:World) (m:Nat) (l:List (Int × Int × Int)) (n:Int) (v:Int × Int) (s:Nat) (b14 b16:Bool) (w1:World):Prop :=
 Mod (·=m) W w1/\match b14,b16 with
  | true,true=>z0q (Value.int .i64) lim w1 m (l++[(n,v)])
  | true,false=>MapNew (Value.int .i64) lim w1 m l n (0,0) s
  | false,false=>z0q (Value.int .i64) lim w1 m l/\ClockAt w1 m s
  | false,true=>False
theorem Midway.below {W w1 w2:World} {m:Nat} {l:List (Int × Int × Int)} {n:Int} {v:Int × Int} {s:Nat} {b14 b16:Bool} (h:Midway W m l n v s b14 b16 w1) (hm:m<W.heap.size) (hb:Below w1.heap.size w1 w2):Midway W m l n v s b14 b16 w2:=by
 obtain⟨h1,h2⟩:=h
 have hlt:m<w1.heap.size:=Nat.lt_of_lt_of_le hm h1.size
 refine⟨h1.trans (S':=fun _=>False) (Mod.z0j hb) (fun _ _ h=>h.elim),?_⟩
 cases b14<;>cases b16<;>simp only at h2 ⊢
 ·exact⟨h2.1.below hb hlt,h2.2.same (hb.block m hlt)⟩
 ·exact h2.same (hb.block m hlt)
 ·exact h2.below hb hlt
set_option maxHeartbeats 1000000 in
theorem reserve2_any (c d b m:Nat) (mk mb hk hb kk kb last k y:Int) (l:List (Int × Int × Int)) (w:World) (h:w.heap[b]?=some (PBlk mk mb hk hb kk kb last (some m))) (hc:w.heap[c]?=some (.cells #[.pointer (some ⟨b,0,none⟩)] 82))
 (hd:w.heap[d]?=some (.cells #[.int .i64 0] 3)) (hm:z0q (Value.int .i64) lim w m l) (hcb:c≠b) (hdb:d≠b) (hdc:d≠c) (hl0:0<=last) (hl1:last<4000000000) (hnew:l.lookup (last+1)=none) :
 Calls Tryz.prog 161 #[.agg #[.int .u64 k,.int .u64 y],.pointer (some ⟨c,0,none⟩),.pointer (some ⟨d,0,none⟩)] w fun e w'=>e=.returned (.tuple #[])/\w'.heap[b]?=some (PBlk mk mb hk hb (IntKind.u64.wrap (kk+k)) (IntKind.u64.wrap (kb+y)) (last+1) (some m)) /\
  w'.heap[d]?=some (.cells #[.int .i64 (last+1)] 3)/\z0q (Value.int .i64) lim w' m (l++[(last+1,k,y)])/\Mod (fun i=>i=b\/i=d\/i=m) w w':=by
 have hC:=cell_of hc 0
 have hcl:=lt_of_block hc
 have hD:=cell_of hd 0
 have hDf:=z0e hd
 have hdl:=lt_of_block hd
 obtain⟨c0,c1,c2,c3,c4,c5,c6,c7,cf,cl⟩:=z2n h
 go_enter Tryz.func161,Tryz.ntmps161
 go_wp2
 obtain⟨s,hs⟩:=hm.clock
 have hml:=hm.lt
 have hmap:∃ es c,w.heap[m]?=some (.map es c):=by obtain⟨es,c,h1,_⟩:=hm;exact⟨es,c,h1⟩
 have hne:∀ (i:Nat) (cs:Array Value) (T:TypeId) (fz:Nat × Nat),w.heap[i]?=some (.cells cs T fz)->i≠m:=fun i cs T fz h1 h2=>by
  obtain⟨es,c,h3⟩:=hmap
  subst h2
  rw[h1] at h3
  cases h3
 have nb:=hne _ _ _ _ h
 have nc:=hne _ _ _ _ hc
 have nd:=hne _ _ _ _ hd
 have hsz:(((w.setCell ⟨b,7,none⟩ (.int .i64 (last+1))).setCell ⟨d,0,none⟩ (.int .i64 (last+1)))).heap.size=w.heap.size:=by simp[World.setCell]
 have hWb:((((w.setCell ⟨b,7,none⟩ (.int .i64 (last+1))).setCell ⟨d,0,none⟩ (.int .i64 (last+1))).alloc (.cells #[.int .u64 k,.int .u64 y] 33))).heap[b]?=some (PBlk mk mb hk hb kk kb (last+1) (some m)):=by
  refine z0c ?_
  rw[Below.heap_setCell _ _ _ _ (by simpa using Ne.symm hdb)]
  have:=heap_set (i:=7) (v:=.int .i64 (last+1)) h
  simpa[PBlk] using this
 have hWc:((((w.setCell ⟨b,7,none⟩ (.int .i64 (last+1))).setCell ⟨d,0,none⟩ (.int .i64 (last+1))).alloc (.cells #[.int .u64 k,.int .u64 y] 33))).heap[c]?=some (.cells #[.pointer (some ⟨b,0,none⟩)] 82):=by
  refine z0c ?_
  rw[Below.heap_setCell _ _ _ _ (by simpa using Ne.symm hdc),Below.heap_setCell _ _ _ _ (by simpa using hcb)]
  exact hc
 have hWd:((((w.setCell ⟨b,7,none⟩ (.int .i64 (last+1))).setCell ⟨d,0,none⟩ (.int .i64 (last+1))).alloc (.cells #[.int .u64 k,.int .u64 y] 33))).heap[d]?=some (.cells #[.int .i64 (last+1)] 3):=by
  refine z0c ?_
  have h1:(w.setCell ⟨b,7,none⟩ (.int .i64 (last+1))).heap[d]?=some (.cells #[.int .i64 0] 3):=by
   rw[Below.heap_setCell _ _ _ _ (by simpa using hdb)]
   exact hd
  have:=heap_set (i:=0) (v:=.int .i64 (last+1)) h1
  simpa using this
 have hWa:((((w.setCell ⟨b,7,none⟩ (.int .i64 (last+1))).setCell ⟨d,0,none⟩ (.int .i64 (last+1))).alloc (.cells #[.int .u64 k,.int .u64 y] 33))).heap[w.heap.size]?=some (.cells #[.int .u64 k,.int .u64 y] 33):=by
  have:=z0a ((w.setCell ⟨b,7,none⟩ (.int .i64 (last+1))).setCell ⟨d,0,none⟩ (.int .i64 (last+1))) (.cells #[.int .u64 k,.int .u64 y] 33)
  rwa [hsz] at this
 have hWm:z0q (Value.int .i64) lim ((((w.setCell ⟨b,7,none⟩ (.int .i64 (last+1))).setCell ⟨d,0,none⟩ (.int .i64 (last+1))).alloc (.cells #[.int .u64 k,.int .u64 y] 33))) m l:=((hm.setCell (by simpa using Ne.symm nb) _).setCell (by simpa using Ne.symm nd) _).alloc _
 have hWs:ClockAt ((((w.setCell ⟨b,7,none⟩ (.int .i64 (last+1))).setCell ⟨d,0,none⟩ (.int .i64 (last+1))).alloc (.cells #[.int .u64 k,.int .u64 y] 33))) m s:=hs.same (by rw[Below.heap_alloc _ _ _ (by rw[hsz];exact hml),Below.heap_setCell _ _ _ _ (by simpa using Ne.symm nd),Below.heap_setCell _ _ _ _ (by simpa using Ne.symm nb)])
 have hWl:m<((((w.setCell ⟨b,7,none⟩ (.int .i64 (last+1))).setCell ⟨d,0,none⟩ (.int .i64 (last+1))).alloc (.cells #[.int .u64 k,.int .u64 y] 33))).heap.size:=hWm.lt
 have hWz:w.heap.size<((((w.setCell ⟨b,7,none⟩ (.int .i64 (last+1))).setCell ⟨d,0,none⟩ (.int .i64 (last+1))).alloc (.cells #[.int .u64 k,.int .u64 y] 33))).heap.size:=lt_of_block hWa
 have hWM:Mod (fun i=>i=b\/i=d\/i=m) w ((((w.setCell ⟨b,7,none⟩ (.int .i64 (last+1))).setCell ⟨d,0,none⟩ (.int .i64 (last+1))).alloc (.cells #[.int .u64 k,.int .u64 y] 33))):=by
  refine Mod.alloc ?_ _
  refine Mod.setCell ?_ (by simp) _
  refine Mod.setCell ?_ (by simp) _
  exact Mod.refl _ _
 clear h hc hd hm hC hD hDf c0 c1 c2 c3 c4 c5 c6 c7 cf hs hmap hne hsz
 generalize (((w.setCell ⟨b,7,none⟩ (.int .i64 (last+1))).setCell ⟨d,0,none⟩ (.int .i64 (last+1))).alloc (.cells #[.int .u64 k,.int .u64 y] 33))=W at hWb hWc hWd hWa hWm hWs hWl hWz hWM ⊢
 refine wp_region_exactI (F:=?F) 20 (fun D=>Midway W m l (last+1) (k,y) s (D 14) (D 16)) (by kernel_rfl) (by kernel_rfl) ?find ?hF ?hlt ?h0 ?hs ?hend
 case find =>
  obtain⟨c0,c1,c2,c3,c4,c5,c6,c7,cf,cl⟩:=z2n hWb
  have g1:=cell_of hWc 0
  have g2:=cell_of hWd 0
  have g3:=cell_of hWa 0
  have g4:=cell_of hWa 1
  dsimp only[List.take]
  go_wp2_with (first|(go_at_call 157;refine (plus_any _ _ _ _ _).mono ?_;rintro e w' ⟨rfl,hb⟩)|(refine wpList_entry_map (z:=(0,0)) rfl _ _ _ rfl keyInt Tryz.underlying139 zeroLim rfl (last+1) rfl (hWm.below hb hWl) (hWs.same (hb.block m hWl)) hnew ?_;intro w2 hE hEm)|(refine wpList_fill_map rfl _ _ _ _ rfl rfl rfl (k,y) rfl hE ?_;intro w3 hM3 hM3m))
  exact rfl
 case hF=>kernel_rfl
 case hlt=>kernel_rfl
 case h0=>exact⟨(Mod.refl _ _).drew,hWm,hWs⟩
 case hs =>
  dsimp only[List.take,z1c]
  (repeat' apply And.intro)
  all_goals
   intro D w1 hDk hwt hI
   have hBb:w1.heap[b]?=some (PBlk mk mb hk hb kk kb (last+1) (some m)):=(hI.1.block b (lt_of_block hWb) nb).trans hWb
   have g1:=cell_of ((hI.1.block c (lt_of_block hWc) nc).trans hWc) 0
   have g2:=cell_of ((hI.1.block d (lt_of_block hWd) nd).trans hWd) 0
   have hBa:=(hI.1.block _ hWz (by omega)).trans hWa
   have g3:=cell_of hBa 0
   have g4:=cell_of hBa 1
   obtain⟨c0,c1,c2,c3,c4,c5,c6,c7,cf,cl⟩:=z2n hBb
   clear hBb hBa
   have HD:=hid hDk
   have HW:=hid hwt
   have HI:=hid hI
   clear hDk hwt hI
   first
    | (
     go_wp2_with (go_at_call 157;refine (plus_any _ _ _ _ _).mono ?_;rintro e w' ⟨rfl,hb⟩)
     exact⟨rfl,by simpa using (by first|exact HI.out.below hWl hb|exact HI.out)⟩)
    | (
     have hI:=HI.out
     rw[HD.out] at hI
     cases h16:D 16
     ·rw[h16] at hI
      refine wpList_entry_map (z:=(0,0)) rfl _ _ _ rfl keyInt Tryz.underlying139 zeroLim rfl (last+1) rfl hI.2.1 hI.2.2 hnew ?_
      intro w2 hE hEm
      exact⟨rfl,by simpa[h16] using (show Midway W m l (last+1) (k,y) s true false w2 from ⟨hI.1.trans hEm (fun _ _ h=>h),hE⟩)⟩
     ·rw[h16] at hI
      exact hI.2.elim)
    | (
     have hI:=HI.out
     rw[HD.out,HW.out 14 (by decide)] at hI
     refine wpList_fill_map rfl _ _ _ _ rfl rfl rfl (k,y) rfl hI.2 ?_
     intro w2 hE hEm
     exact⟨rfl,by simpa[HW.out 14 (by decide)] using (show Midway W m l (last+1) (k,y) s true true w2 from ⟨hI.1.trans hEm (fun _ _ h=>h),hE⟩)⟩)
 case hend =>
  intro D w1 hD hI
  rw[hD 14 (by omega),hD 16 (by omega)] at hI
  obtain⟨hI1,hI2⟩:=hI
  have hBb:w1.heap[b]?=some (PBlk mk mb hk hb kk kb (last+1) (some m)):=(hI1.block b (lt_of_block hWb) nb).trans hWb
  have hBd:=(hI1.block d (lt_of_block hWd) nd).trans hWd
  obtain⟨c0,c1,c2,c3,c4,c5,c6,c7,cf,cl⟩:=z2n hBb
  dsimp only[List.drop]
  have HB:=hid hBb
  have HDD:=hid hBd
  have HI2:=hid hI2
  clear hBb hBd hI2 hD
  go_wp2
  go_end0
  refine⟨rfl,?_,?_,?_,?_⟩
  ·have:=heap_set (i:=5) (v:=.int .u64 (IntKind.u64.wrap (kb+y))) (heap_set (i:=4) (v:=.int .u64 (IntKind.u64.wrap (kk+k))) HB.out)
   simpa[PBlk] using this
  ·rw[Below.heap_setCell _ _ _ _ (by simpa using hdb),Below.heap_setCell _ _ _ _ (by simpa using hdb)]
   exact HDD.out
  ·exact (HI2.out.setCell (by simpa using Ne.symm nb) _).setCell (by simpa using Ne.symm nb) _
  ·refine Mod.setCell ?_ (by simp) _
   refine Mod.setCell ?_ (by simp) _
   exact hWM.trans hI1 (fun i _ h=>.inr (.inr h))
end Go.Proofs.YtgdmfledhhoedaaGreatDoor
