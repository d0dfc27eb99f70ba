/- Part 7 of 27. -/
import Derived.Test.YtgdmfledhhoedaaGreatDoorD06
import Derived.Test.YtgdmfledhhoedaaGreatDoorD02
import Derived.Test.YtgdmfledhhoedaaGreatDoorD05
import Derived.Test.YtgdmfledhhoedaaGreatDoorD01
import Derived.Laws.ResultCell
namespace Go.Burg
open Go Go.RowKit
def MineOf (c7:Nat) (W:World) (i:Nat):Prop:=(∃ n c,W.cell? ⟨c7,4,none⟩=some (.slice (some ⟨i,0,none⟩) n c))\/(∃ n c,W.cell? ⟨c7,5,none⟩=some (.slice (some ⟨i,0,none⟩) n c))
theorem mineOf_ok {c7 n₀:Nat} (h:c7<n₀):MineOk n₀ (MineOf c7):=⟨fun {W W' row i} hn hg hr hm=>by
 have e:W'.heap[c7]?=W.heap[c7]?:=hg.block c7 (by omega) (fun e=>by have:=(hr _ e.symm).1;omega)
 rcases hm with ⟨n,c,hm⟩|⟨n,c,hm⟩
 ·exact .inl ⟨n,c,(World.cell?_of_block (w:=W) e).symm.trans hm⟩
 ·exact .inr ⟨n,c,(World.cell?_of_block (w:=W) e).symm.trans hm⟩⟩
end Go.Burg
namespace Go.Proofs.YtgdmfledhhoedaaGreatDoor.O
set_option maxRecDepth 8000
open Go.ChangeShapes Go.WideShapes Go.ChangeAt Go.RowKit Go.Burg Go.Shelf
attribute [local go_sem] Oper.semAt_some
def KidsK (w:World) (v:Value) (L:List Kd):Prop:=(∃ x r,v=.iface 229 (.pointer (some ⟨x,0,none⟩))/\FewL 244 w x L r)\/(∃ x gr gu r,v=.iface 232 (.pointer (some ⟨x,0,none⟩))/\ManyK 251 36 4 w x gr gu r L)
variable {xs:List Value} {B n s u:Nat} {e:TypeId} {v:Value} {W w:World}
section
variable {w w':World} {k k':Nat} {pt:ByteArray} {ya za:Option Addr} {yn yc zn zc:Nat} {L:List Kd}
theorem own_form (h:w.ownsRow B e s v n xs):∃ a n c,v=.slice a n c:=by
 obtain⟨_,⟨rfl,_⟩|⟨g,cap,cur,rfl,_⟩⟩:=h
 ·exact⟨_,_,_,rfl⟩
 ·exact⟨_,_,_,rfl⟩
theorem of_end {n₀:Nat} {pre:List Kd} {y:Kd} {w1:World} {yv zv:Value} {D:Nat->Bool} {xs:Nat->Value} (hn:n₀=u+1+1+1+1) (hD:∀ j,j<14->D j=true)
 (hJ:OfJ W (u+1+1) (u+1+1+1+1) pre.length (.int .i64 k') pt yv zv (bytesL pre) (z2v pre) y.b y.s y.g D xs w1)
 (hc:W.heap[u+1+1]?=some (.cells #[.int .i64 k',.string ⟨#[]⟩,.string ⟨#[]⟩,.string pt,yv,zv] 102 (0,0))) (hy:W.ownsRow (u+1+1+1+1) 5 1 yv pre.length (bytesL pre)) (hz:W.ownsRow (u+1+1+1+1) 36 2 zv pre.length (z2v pre))
 (h6:W.heap[u+1]?=some (.cells #[.int .i64 0,.string ⟨#[]⟩,.string ⟨#[]⟩,.string ⟨#[]⟩,.slice none 0 0,.slice none 0 0] 102 (0,0))) (hb:Below u w W) (hsz:u+1+1+1+1<=W.heap.size):KeepsFrom n₀ W w1/\KpM n₀ (MineOf (u+1+1)) W w1/\(fun (pre:List Kd) W=>(∃ yv zv,W.heap[u+1+1]?=some (.cells #[.int .i64 k',.string ⟨#[]⟩,.string ⟨#[]⟩,.string pt,yv,zv] 102 (0,0))/\W.ownsRow (u+1+1+1+1) 5 1 yv pre.length (bytesL pre)/\W.ownsRow (u+1+1+1+1) 36 2 zv pre.length (z2v pre))/\W.heap[u+1]?=some (.cells #[.int .i64 0,.string ⟨#[]⟩,.string ⟨#[]⟩,.string ⟨#[]⟩,.slice none 0 0,.slice none 0 0] 102 (0,0))/\Below u w W/\u+1+1+1+1<=W.heap.size) (pre++[y]) w1:=by
 subst hn
 have hblk:∀ {v:Value} {e:TypeId} {s n k:Nat} {xs:List Value},W.ownsRow (u+1+1+1+1) e s v n xs->v.ownBlock=some k->(∃ n' c,v=.slice (some ⟨k,0,none⟩) n' c)/\∃ o:Obj,W.heap[k]?=some o/\o.isCells=true:=fun h e=>by
  obtain⟨_,⟨rfl,_⟩|⟨g,cap,cur,rfl,_,hg,_⟩⟩:=h
  ·simp[Value.ownBlock] at e
  ·simp only[Value.ownBlock,Option.some.injEq] at e;subst e;exact⟨⟨_,_,rfl⟩,_,hg,rfl⟩
 have hfo:∀ {v:Value} {k:Nat},v.ownBlock=some k->∀ {e:TypeId} {s n:Nat} {xs:List Value} {A:World},A.ownsRow (u+1+1+1+1) e s v n xs->∃ n' c,v=.slice (some ⟨k,0,none⟩) n' c:=fun e _ _ _ _ _ h=>by
  obtain⟨_,⟨rfl,_⟩|⟨g,cap,cur,rfl,_,hg,_⟩⟩:=h
  ·simp[Value.ownBlock] at e
  ·simp only[Value.ownBlock,Option.some.injEq] at e;subst e;exact⟨_,_,rfl⟩
 have d4:=hD 4 (by omega)
 have d9:=hD 9 (by omega)
 have d11:=hD 11 (by omega)
 have d13:=hD 13 (by omega)
 have hc1:=hJ.c
 have hy1:=hJ.y
 have hz1:=hJ.z
 have hy2:=hJ.y2 d4
 have hz2:=hJ.z2 d9
 rw[d11,d13] at hc1
 rw[d4] at hy1
 rw[d9] at hz1
 simp only[cond_true] at hc1 hy1 hz1
 refine⟨⟨hJ.m.size,fun k o hk ho hoc=>?_⟩,⟨hJ.m.size,fun i o hi hm ho hoc=>?_,fun i hm=>?_⟩,⟨xs 4,xs 9,hc1,?_,?_⟩,?_,?_,?_⟩
 ·refine (hJ.m.block k (lt_of_block ho) ?_).trans ho
  rintro (e|e|e)
  ·omega
  ·obtain⟨_,o2,h2,h3⟩:=hblk hy e
   rw[ho] at h2;cases h2;rw[hoc] at h3;cases h3
  ·obtain⟨_,o2,h2,h3⟩:=hblk hz e
   rw[ho] at h2;cases h2;rw[hoc] at h3;cases h3
 ·refine (hJ.m.block i (lt_of_block ho) ?_).trans ho
  rintro (e|e|e)
  ·omega
  ·obtain⟨⟨n',c,rfl⟩,_⟩:=hblk hy e
   exact hm (.inl ⟨n',c,by rw[cell_of hc 4];rfl⟩)
  ·obtain⟨⟨n',c,rfl⟩,_⟩:=hblk hz e
   exact hm (.inr ⟨n',c,by rw[cell_of hc 5];rfl⟩)
 ·rcases hm with ⟨n,c,hm⟩|⟨n,c,hm⟩
  ·rw[cell_of hc1 4] at hm
   have e:xs 4=.slice (some ⟨i,0,none⟩) n c:=by simpa using hm
   rw[e] at hy2
   rcases hy2 with e2|⟨a,e2,e3⟩
   ·obtain⟨⟨n',c',rfl⟩,_⟩:=hblk (k:=i) hy (e2.symm.trans rfl)
    exact .inl (.inl ⟨n',c',by rw[cell_of hc 4];rfl⟩)
   ·simp only[Value.ownBlock,Option.some.injEq] at e2
    exact .inr (by omega)
  ·rw[cell_of hc1 5] at hm
   have e:xs 9=.slice (some ⟨i,0,none⟩) n c:=by simpa using hm
   rw[e] at hz2
   rcases hz2 with e2|⟨a,e2,e3⟩
   ·obtain⟨⟨n',c',rfl⟩,_⟩:=hblk (k:=i) hz (e2.symm.trans rfl)
    exact .inl (.inr ⟨n',c',by rw[cell_of hc 5];rfl⟩)
   ·simp only[Value.ownBlock,Option.some.injEq] at e2
    exact .inr (by omega)
 ·simpa[bytesL] using hy1
 ·simpa[z2v] using hz1
 ·refine (hJ.m.block _ (lt_of_block h6) ?_).trans h6
  rintro (e|e|e)
  ·omega
  ·have:=(z2a hy e).1;omega
  ·have:=(z2a hz e).1;omega
 ·refine hb.trans ⟨hJ.m.os,hJ.m.tape,hJ.m.output,hJ.m.size,fun k hk=>hJ.m.block k (by have:=hb.size;omega) ?_⟩
  rintro (e|e|e)
  ·omega
  ·have:=(z2a hy e).1;omega
  ·have:=(z2a hz e).1;omega
 ·have:=hJ.m.size;omega
theorem own_form2 (h:w.ownsRow B e s v n xs):∃ a c,v=.slice a n c:=by
 obtain⟨_,⟨rfl,rfl⟩|⟨g,cap,cur,rfl,_⟩⟩:=h
 ·exact⟨_,_,rfl⟩
 ·exact⟨_,_,rfl⟩
theorem own_base (h:w.ownsRow B e s v n xs):w.ownsRow 0 e s v n xs:=by
 obtain⟨h1,h2|⟨g,cap,cur,a,b,c⟩⟩:=h
 ·exact⟨h1,.inl h2⟩
 ·exact⟨h1,.inr ⟨g,cap,cur,a,Nat.zero_le _,c⟩⟩
theorem of_last {D:Nat} {M:List Kd} {vy vz:Value} (h6:W.heap[u+1]?=some (.cells #[.int .i64 0,.string ⟨#[]⟩,.string ⟨#[]⟩,.string ⟨#[]⟩,.slice none 0 0,.slice none 0 0] 102 (0,0))) (hy:W.ownsRow (u+1+1+1+1) 5 1 vy M.length (bytesL M)) (hz:W.ownsRow (u+1+1+1+1) 36 2 vz M.length (z2v M))
 (hb:Below u w W) (hD:u+1+1+1+1<=D) (hdf:W.heap[D]?=some (.deferred (some []))) :
 ((((((W.setCell ⟨u+1,0,none⟩ (.int .i64 k')).setCell ⟨u+1,1,none⟩ (.string ⟨#[]⟩)).setCell ⟨u+1,2,none⟩ (.string ⟨#[]⟩)).setCell ⟨u+1,3,none⟩ (.string pt)).setCell ⟨u+1,4,none⟩ vy).setCell ⟨u+1,5,none⟩ vz).heap[D]?=some (.deferred (some []))/\(((((((W.setCell ⟨u+1,0,none⟩ (.int .i64 k')).setCell ⟨u+1,1,none⟩ (.string ⟨#[]⟩)).setCell ⟨u+1,2,none⟩ (.string ⟨#[]⟩)).setCell ⟨u+1,3,none⟩ (.string pt)).setCell ⟨u+1,4,none⟩ vy).setCell ⟨u+1,5,none⟩ vz).putObj D (.deferred none)).heap[u+1]?=some (.cells #[.int .i64 k',.string ⟨#[]⟩,.string ⟨#[]⟩,.string pt,vy,vz] 102 (0,0)) /\
  (((((((W.setCell ⟨u+1,0,none⟩ (.int .i64 k')).setCell ⟨u+1,1,none⟩ (.string ⟨#[]⟩)).setCell ⟨u+1,2,none⟩ (.string ⟨#[]⟩)).setCell ⟨u+1,3,none⟩ (.string pt)).setCell ⟨u+1,4,none⟩ vy).setCell ⟨u+1,5,none⟩ vz).putObj D (.deferred none)).ownsRow 0 5 1 vy M.length (bytesL M)/\(((((((W.setCell ⟨u+1,0,none⟩ (.int .i64 k')).setCell ⟨u+1,1,none⟩ (.string ⟨#[]⟩)).setCell ⟨u+1,2,none⟩ (.string ⟨#[]⟩)).setCell ⟨u+1,3,none⟩ (.string pt)).setCell ⟨u+1,4,none⟩ vy).setCell ⟨u+1,5,none⟩ vz).putObj D (.deferred none)).ownsRow 0 36 2 vz M.length (z2v M)/\Below u w (((((((W.setCell ⟨u+1,0,none⟩ (.int .i64 k')).setCell ⟨u+1,1,none⟩ (.string ⟨#[]⟩)).setCell ⟨u+1,2,none⟩ (.string ⟨#[]⟩)).setCell ⟨u+1,3,none⟩ (.string pt)).setCell ⟨u+1,4,none⟩ vy).setCell ⟨u+1,5,none⟩ vz).putObj D (.deferred none)):=by
 have h6':((((((W.setCell ⟨u+1,0,none⟩ (.int .i64 k')).setCell ⟨u+1,1,none⟩ (.string ⟨#[]⟩)).setCell ⟨u+1,2,none⟩ (.string ⟨#[]⟩)).setCell ⟨u+1,3,none⟩ (.string pt)).setCell ⟨u+1,4,none⟩ vy).setCell ⟨u+1,5,none⟩ vz).heap[u+1]?=some (.cells #[.int .i64 k',.string ⟨#[]⟩,.string ⟨#[]⟩,.string pt,vy,vz] 102 (0,0)):=by
  have:=heap_set (i:=5) (v:=vz) (heap_set (i:=4) (v:=vy) (heap_set (i:=3) (v:=.string pt) (heap_set (i:=2) (v:=.string ⟨#[]⟩) (heap_set (i:=1) (v:=.string ⟨#[]⟩) (heap_set (i:=0) (v:=.int .i64 k') h6)))))
  simpa using this
 have stp:∀ {A:World} (j:Nat) (v:Value),Mod (·=u+1) W A->Mod (·=u+1) W (A.setCell ⟨u+1,j,none⟩ v):=fun j v h=>Mod.setCell (S:=(·=u+1)) (p:=⟨u+1,j,none⟩) h (.inl rfl) v
 have hM:Mod (·=u+1) W ((((((W.setCell ⟨u+1,0,none⟩ (.int .i64 k')).setCell ⟨u+1,1,none⟩ (.string ⟨#[]⟩)).setCell ⟨u+1,2,none⟩ (.string ⟨#[]⟩)).setCell ⟨u+1,3,none⟩ (.string pt)).setCell ⟨u+1,4,none⟩ vy).setCell ⟨u+1,5,none⟩ vz):=stp _ _ (stp _ _ (stp _ _ (stp _ _ (stp _ _ (stp _ _ (Mod.refl _ _))))))
 generalize ((((((W.setCell ⟨u+1,0,none⟩ (.int .i64 k')).setCell ⟨u+1,1,none⟩ (.string ⟨#[]⟩)).setCell ⟨u+1,2,none⟩ (.string ⟨#[]⟩)).setCell ⟨u+1,3,none⟩ (.string pt)).setCell ⟨u+1,4,none⟩ vy).setCell ⟨u+1,5,none⟩ vz)=W6 at *
 have hdf6:W6.heap[D]?=some (.deferred (some [])):=(hM.block D (lt_of_block hdf) (by show ¬ D=u+1;omega)).trans hdf
 have hM2:Mod (fun k=>k=u+1\/k=D) W (W6.putObj D (.deferred none)):=⟨hM.os,hM.tape,hM.output,by simpa using hM.size,fun k hk hn=>(World.putObj_heap_other (fun e=>hn (.inr e))).trans (hM.block k hk (fun e=>hn (.inl e)))⟩
 have hno:∀ {v:Value} {e:TypeId} {s n:Nat} {xs:List Value},W.ownsRow (u+1+1+1+1) e s v n xs->∀ k,v.ownBlock=some k->¬ (k=u+1\/k=D):=fun h k e=>by
  rintro (rfl|rfl)
  ·have:=(z2a h e).1;omega
  ·obtain⟨_,⟨rfl,_⟩|⟨g,cap,cur,rfl,_,hg,_⟩⟩:=h
   ·simp[Value.ownBlock] at e
   ·simp only[Value.ownBlock,Option.some.injEq] at e;subst e;rw[hdf] at hg;cases hg
 exact⟨hdf6,(World.putObj_heap_other (by omega)).trans h6',own_base (z0h hy hM2 (hno hy)),own_base (z0h hz hM2 (hno hz)),hb.trans ⟨hM2.os,hM2.tape,hM2.output,hM2.size,fun k hk=>hM2.block k (by have:=lt_of_block h6;omega) (by show ¬ (k=u+1\/k=D);omega)⟩⟩
set_option maxRecDepth 100000 in
set_option maxHeartbeats 8000000 in
theorem of_gen {T fa g1 x:Nat} (hmt:∀ w,(method 410 T (.pointer (some ⟨x,0,none⟩)) "All").run Tryz.prog w=.ok (fa,.pointer (some ⟨x,0,none⟩)) w) (hal:∀ w:World,Calls Tryz.prog fa #[.pointer (some ⟨x,0,none⟩)] w fun e w'=>e=.returned (.func (.func g1) #[] #[.pointer (some ⟨w.heap.size,0,none⟩)])/\w'=w.alloc (.cells #[.pointer (some ⟨x,0,none⟩)] T (0,0))) (hef:∀ (args:Array Value) (w:World),(callFunc fa args).run Tryz.prog w=.ok (.enter fa args) w) (hen:Enters Tryz.prog g1)
 (hsq:∀ W B,Below w.heap.size w W->W.heap[B]?=some (.cells #[.pointer (some ⟨x,0,none⟩)] T (0,0))->SeqOwn Tryz.prog g1 #[.pointer (some ⟨B,0,none⟩)] F.encK W.heap.size (fun xs=>xs=L) (fun pre=>pre <+: L) 256 W) :
 Calls Tryz.prog 78 #[(.agg #[.int .i64 k,.string ⟨#[]⟩,.string ⟨#[]⟩,.string pt,.slice ya yn yc,.slice za zn zc]),.iface T (.pointer (some ⟨x,0,none⟩)),.int .i64 k'] w fun e w'=>∃ ya' yc' za' zc',e=.returned (.agg #[.int .i64 k',.string ⟨#[]⟩,.string ⟨#[]⟩,.string pt,.slice ya' L.length yc',.slice za' L.length zc']) /\
  w'.ownsRow 0 5 1 (.slice ya' L.length yc') L.length (bytesL L)/\w'.ownsRow 0 36 2 (.slice za' L.length zc') L.length (z2v L)/\Below w.heap.size w w':=by
 have hmf:=makeF Tryz.prog
 refine (callsIn_wide (n:=8)).1 ?_
 refine callsIn_of_wp_marks Tryz.func78 rfl trivial ?_ rfl
 refine wpIn_wide.2 ?_
 simp only[Tryz.ntmps78,List.size_toArray,List.length_cons,List.length_nil,Nat.reduceAdd,Nat.reduceSub,Array.replicate_succ,Array.replicate_zero,List.push_toArray,List.append_toArray,List.nil_append,List.cons_append]
 go_wp2_with fail
 refine (hal _).mono ?_
 rintro e w1 ⟨rfl,rfl⟩
 have hs1:(w.alloc (.cells #[.int .i64 k,.string ⟨#[]⟩,.string ⟨#[]⟩,.string pt,.slice ya yn yc,.slice za zn zc] 165 (0,0))).heap.size=w.heap.size+1:=by simp
 have hs2:((w.alloc (.cells #[.int .i64 k,.string ⟨#[]⟩,.string ⟨#[]⟩,.string pt,.slice ya yn yc,.slice za zn zc] 165 (0,0))).alloc (.cells #[.int .i64 0,.string ⟨#[]⟩,.string ⟨#[]⟩,.string ⟨#[]⟩,.slice none 0 0,.slice none 0 0] 102 (0,0))).heap.size=w.heap.size+1+1:=by simp
 have hs3:(((w.alloc (.cells #[.int .i64 k,.string ⟨#[]⟩,.string ⟨#[]⟩,.string pt,.slice ya yn yc,.slice za zn zc] 165 (0,0))).alloc (.cells #[.int .i64 0,.string ⟨#[]⟩,.string ⟨#[]⟩,.string ⟨#[]⟩,.slice none 0 0,.slice none 0 0] 102 (0,0))).alloc (.cells #[.int .i64 k',.string ⟨#[]⟩,.string ⟨#[]⟩,.string pt,.slice none 0 0,.slice none 0 0] 102 (0,0))).heap.size=w.heap.size+1+1+1:=by simp
 have hs4:((((w.alloc (.cells #[.int .i64 k,.string ⟨#[]⟩,.string ⟨#[]⟩,.string pt,.slice ya yn yc,.slice za zn zc] 165 (0,0))).alloc (.cells #[.int .i64 0,.string ⟨#[]⟩,.string ⟨#[]⟩,.string ⟨#[]⟩,.slice none 0 0,.slice none 0 0] 102 (0,0))).alloc (.cells #[.int .i64 k',.string ⟨#[]⟩,.string ⟨#[]⟩,.string pt,.slice none 0 0,.slice none 0 0] 102 (0,0))).alloc (.cells #[.pointer (some ⟨x,0,none⟩)] T (0,0))).heap.size=w.heap.size+1+1+1+1:=by simp
 have b6:=z0m (o':=(.cells #[.pointer (some ⟨x,0,none⟩)] T (0,0))) (z0m (o':=(.cells #[.int .i64 k',.string ⟨#[]⟩,.string ⟨#[]⟩,.string pt,.slice none 0 0,.slice none 0 0] 102 (0,0))) (z0a (w.alloc (.cells #[.int .i64 k,.string ⟨#[]⟩,.string ⟨#[]⟩,.string pt,.slice ya yn yc,.slice za zn zc] 165 (0,0))) (.cells #[.int .i64 0,.string ⟨#[]⟩,.string ⟨#[]⟩,.string ⟨#[]⟩,.slice none 0 0,.slice none 0 0] 102 (0,0))))
 have b7:=z0m (o':=(.cells #[.pointer (some ⟨x,0,none⟩)] T (0,0))) (z0a ((w.alloc (.cells #[.int .i64 k,.string ⟨#[]⟩,.string ⟨#[]⟩,.string pt,.slice ya yn yc,.slice za zn zc] 165 (0,0))).alloc (.cells #[.int .i64 0,.string ⟨#[]⟩,.string ⟨#[]⟩,.string ⟨#[]⟩,.slice none 0 0,.slice none 0 0] 102 (0,0))) (.cells #[.int .i64 k',.string ⟨#[]⟩,.string ⟨#[]⟩,.string pt,.slice none 0 0,.slice none 0 0] 102 (0,0)))
 have b8:=z0a (((w.alloc (.cells #[.int .i64 k,.string ⟨#[]⟩,.string ⟨#[]⟩,.string pt,.slice ya yn yc,.slice za zn zc] 165 (0,0))).alloc (.cells #[.int .i64 0,.string ⟨#[]⟩,.string ⟨#[]⟩,.string ⟨#[]⟩,.slice none 0 0,.slice none 0 0] 102 (0,0))).alloc (.cells #[.int .i64 k',.string ⟨#[]⟩,.string ⟨#[]⟩,.string pt,.slice none 0 0,.slice none 0 0] 102 (0,0))) (.cells #[.pointer (some ⟨x,0,none⟩)] T (0,0))
 rw[hs1] at b6
 rw[hs2] at b7
 rw[hs3] at b8
 have hB:Below w.heap.size w ((((w.alloc (.cells #[.int .i64 k,.string ⟨#[]⟩,.string ⟨#[]⟩,.string pt,.slice ya yn yc,.slice za zn zc] 165 (0,0))).alloc (.cells #[.int .i64 0,.string ⟨#[]⟩,.string ⟨#[]⟩,.string ⟨#[]⟩,.slice none 0 0,.slice none 0 0] 102 (0,0))).alloc (.cells #[.int .i64 k',.string ⟨#[]⟩,.string ⟨#[]⟩,.string pt,.slice none 0 0,.slice none 0 0] 102 (0,0))).alloc (.cells #[.pointer (some ⟨x,0,none⟩)] T (0,0))):=((((Below.refl _ _).alloc (Nat.le_refl _) _).alloc (by simp) _).alloc (by simp;omega) _).alloc (by simp;omega) _
 rw[hs3]
 go_wp2_with fail
 generalize hWl:((((w.alloc (.cells #[.int .i64 k,.string ⟨#[]⟩,.string ⟨#[]⟩,.string pt,.slice ya yn yc,.slice za zn zc] 165 (0,0))).alloc (.cells #[.int .i64 0,.string ⟨#[]⟩,.string ⟨#[]⟩,.string ⟨#[]⟩,.slice none 0 0,.slice none 0 0] 102 (0,0))).alloc (.cells #[.int .i64 k',.string ⟨#[]⟩,.string ⟨#[]⟩,.string pt,.slice none 0 0,.slice none 0 0] 102 (0,0))).alloc (.cells #[.pointer (some ⟨x,0,none⟩)] T (0,0)))=Wl at *
 generalize hu:w.heap.size=u at *
 have HB:=hid hB
 have H6:=hid b6
 have H7:=hid b7
 have H8:=hid b8
 have HSQ:=hid (hsq _ (u+1+1+1) hB b8)
 have HU:=hid hu
 clear hB b6 b7 b8 hsq hWl hs1 hs2 hs3
 have hI0:OwnFrom Wl.heap.size (fun (pre:List Kd) W=>(∃ yv zv,W.heap[u+1+1]?=some (.cells #[.int .i64 k',.string ⟨#[]⟩,.string ⟨#[]⟩,.string pt,yv,zv] 102 (0,0))/\W.ownsRow (u+1+1+1+1) 5 1 yv pre.length (bytesL pre)/\W.ownsRow (u+1+1+1+1) 36 2 zv pre.length (z2v pre))/\W.heap[u+1]?=some (.cells #[.int .i64 0,.string ⟨#[]⟩,.string ⟨#[]⟩,.string ⟨#[]⟩,.slice none 0 0,.slice none 0 0] 102 (0,0))/\Below u w W/\u+1+1+1+1<=W.heap.size):=by
  rintro s A C row ⟨⟨yv,zv,hc,hy,hz⟩,h6,hb,hsz⟩ hg hr
  have e:∀ (k:Nat),k<Wl.heap.size->k<A.heap.size->C.heap[k]?=A.heap[k]?:=fun k hk hA=>hg.block k hA (fun e=>by have:=(hr k e.symm).1;omega)
  have hMo:Mod (fun k=>row=some k) A C:=⟨hg.os,hg.tape,hg.output,hg.size,fun k hk hn=>hg.block k hk (fun e=>hn e.symm)⟩
  have hno:∀ {B e s n:Nat} {v:Value} {xs:List Value},A.ownsRow B e s v n xs->∀ k,v.ownBlock=some k->¬ row=some k:=fun h k e1 e2=>by
   obtain⟨_,o,ho,hoc⟩:=hr k e2
   obtain⟨_,⟨rfl,_⟩|⟨g,cap,cur,rfl,_,hcc,_⟩⟩:=h
   ·simp[Value.ownBlock] at e1
   ·simp only[Value.ownBlock,Option.some.injEq] at e1
    subst e1
    rw[hcc] at ho
    cases ho
    cases hoc
  exact⟨⟨yv,zv,(e _ (by omega) (lt_of_block hc)).trans hc,z0h hy hMo (hno hy),z0h hz hMo (hno hz)⟩,(e _ (by omega) (lt_of_block h6)).trans h6,hb.trans ⟨hg.os,hg.tape,hg.output,hg.size,fun k hk=>hg.block k (by have:=hb.size;omega) (fun e=>by have:=(hr k e.symm).1;omega)⟩,Nat.le_trans hsz hg.size⟩
 have hAx0:∀ (y:Kd) (a':Act),OwnFrom Wl.heap.size (fun (_:Unit) W=>∃ Bx,u+1+1+1+1<=Bx/\(W).heap[Bx]?=some (.cells #[.int .i64 (y).s,.int .u32 (y).g] 36 (0,0))/\¬ MineOf (u+1+1) W Bx/\a'=({ tmps:=#[(.agg #[.int .i64 k,.string ⟨#[]⟩,.string ⟨#[]⟩,.string pt,.slice ya yn yc,.slice za zn zc]),.iface T (.pointer (some ⟨x,0,none⟩)),.int .i64 k',.pointer (some ⟨u,0,none⟩),undef,undef,.pointer (some ⟨(u+1),0,none⟩),.pointer (some ⟨(u+1+1),0,none⟩),.int .u8 (y).b,.pointer (some ⟨Bx,0,none⟩),.int .i64 k',.pointer (some ⟨u,0,none⟩),.pointer (some ⟨u,3,none⟩),.string pt,.agg #[.int .i64 k',.string ⟨#[]⟩,.string ⟨#[]⟩,.string pt,.slice none 0 0,.slice none 0 0],.iface T (.pointer (some ⟨x,0,none⟩)),.func (.func g1) #[] #[.pointer (some ⟨(u+1+1+1),0,none⟩)],.int .u8 (y).b,.agg #[.int .i64 (y).s,.int .u32 (y).g],undef,undef,undef,undef,undef,undef,undef,undef,undef,undef,undef,undef,undef],defers:=[] }:Act)):=by
  rintro y a' s A C row ⟨Bx,h1,h2,h4,h3⟩ hg hr
  refine⟨Bx,h1,(hg.block Bx (lt_of_block h2) (fun e=>?_)).trans h2,fun hm=>h4 ((mineOf_ok (c7:=u+1+1) (n₀:=Wl.heap.size) (by omega)).grow (by have:=lt_of_block h2;omega) hg hr hm),h3⟩
  obtain⟨_,o,ho,hoc⟩:=hr Bx e.symm
  rw[h2] at ho
  cases ho
  cases hoc
 have hml:∀ i,MineOf (u+1+1) Wl i->i<Wl.heap.size:=fun i hm=>by
  rcases hm with ⟨n,c,hm⟩|⟨n,c,hm⟩
  ·rw[cell_of H7.out 4] at hm;simp at hm
  ·rw[cell_of H7.out 5] at hm;simp at hm
 have HIO:=hid hI0
 have HAO:=hid hAx0
 have HML:=hid hml
 clear hI0 hAx0 hml
 refine wpIn_wide.1 (range_own (n:=8) (by decide) (gf:=g1) (lb:=#[.pointer (some ⟨(u+1+1+1),0,none⟩)]) rfl hen (MineOf (u+1+1)) (mineOf_ok (by omega)) (HSQ.out _ (mineOf_ok (by omega))) (Nat.le_refl _) HML.out (Below.refl _ _) (fun _=>rfl)
  (fun (pre:List Kd) W=>(∃ yv zv,W.heap[u+1+1]?=some (.cells #[.int .i64 k',.string ⟨#[]⟩,.string ⟨#[]⟩,.string pt,yv,zv] 102 (0,0))/\W.ownsRow (u+1+1+1+1) 5 1 yv pre.length (bytesL pre)/\W.ownsRow (u+1+1+1+1) 36 2 zv pre.length (z2v pre))/\W.heap[u+1]?=some (.cells #[.int .i64 0,.string ⟨#[]⟩,.string ⟨#[]⟩,.string ⟨#[]⟩,.slice none 0 0,.slice none 0 0] 102 (0,0))/\Below u w W/\u+1+1+1+1<=W.heap.size) (fun _ _=>False) HIO.out (fun _ _ _ _ h _ _=>h) ⟨⟨_,_,H7.out,World.ownsRow_nil _ _ _ _,World.ownsRow_nil _ _ _ _⟩,H6.out,HB.out,by omega⟩ (fun y a' W=>∃ Bx,u+1+1+1+1<=Bx/\(W).heap[Bx]?=some (.cells #[.int .i64 (y).s,.int .u32 (y).g] 36 (0,0))/\¬ MineOf (u+1+1) W Bx/\a'=({ tmps:=#[(.agg #[.int .i64 k,.string ⟨#[]⟩,.string ⟨#[]⟩,.string pt,.slice ya yn yc,.slice za zn zc]),.iface T (.pointer (some ⟨x,0,none⟩)),.int .i64 k',.pointer (some ⟨u,0,none⟩),undef,undef,.pointer (some ⟨(u+1),0,none⟩),.pointer (some ⟨(u+1+1),0,none⟩),.int .u8 (y).b,.pointer (some ⟨Bx,0,none⟩),.int .i64 k',.pointer (some ⟨u,0,none⟩),.pointer (some ⟨u,3,none⟩),.string pt,.agg #[.int .i64 k',.string ⟨#[]⟩,.string ⟨#[]⟩,.string pt,.slice none 0 0,.slice none 0 0],.iface T (.pointer (some ⟨x,0,none⟩)),.func (.func g1) #[] #[.pointer (some ⟨(u+1+1+1),0,none⟩)],.int .u8 (y).b,.agg #[.int .i64 (y).s,.int .u32 (y).g],undef,undef,undef,undef,undef,undef,undef,undef,undef,undef,undef,undef,undef],defers:=[] }:Act)) HAO.out ?assign ?body ?done ?stop)
 case assign =>
  rintro l pre y W K ⟨⟨yv,zv,hc,hy,hz⟩,h6,hb,hsz⟩ hK
  dsimp only[F.encK]
  gi_wp2_with fail
  have hbl:Below W.heap.size W (W.alloc (.cells #[.int .i64 y.s,.int .u32 y.g] 36 (0,0))):=(Below.refl _ _).alloc (Nat.le_refl _) _
  have hlt:=lt_of_block hc
  have hWl:Wl.heap.size<=W.heap.size:=by omega
  refine hK _ _ (z1n hbl) (KpM.below (mineOf_ok (by omega)) hWl hbl) ⟨⟨yv,zv,z0m hc,hy.alloc _,hz.alloc _⟩,z0m h6,hb.trans (hbl.mono (by have:=hb.size;omega)),by have:=hbl.size;omega⟩ ⟨W.heap.size,by omega,z0a _ _,fun hm=>?_,rfl⟩
  have hc':=z0m (o':=.cells #[.int .i64 y.s,.int .u32 y.g] 36 (0,0)) hc
  rcases hm with ⟨n,c,hm⟩|⟨n,c,hm⟩
  ·rw[cell_of hc' 4] at hm
   have e:yv=.slice (some ⟨W.heap.size,0,none⟩) n c:=by simpa using hm
   have:=(z2a hy (k:=W.heap.size) (by rw[e];rfl)).2
   omega
  ·rw[cell_of hc' 5] at hm
   have e:zv=.slice (some ⟨W.heap.size,0,none⟩) n c:=by simpa using hm
   have:=(z2a hz (k:=W.heap.size) (by rw[e];rfl)).2
   omega
 case body =>
  rintro l pre y a' W hl hrec ⟨⟨yv,zv,hc,hy,hz⟩,h6,hb,hsz⟩ ⟨Bx,hBx,hX,hnm,rfl⟩ hlen
  have hn1:∀ {v:Value} {e:TypeId} {s n:Nat} {xs:List Value},W.ownsRow (u+1+1+1+1) e s v n xs->∀ k,v.ownBlock=some k->k<W.heap.size:=fun h k e=>(z2a h e).2
  have hblk:∀ {v:Value} {e:TypeId} {s n:Nat} {xs:List Value},W.ownsRow (u+1+1+1+1) e s v n xs->∀ k,v.ownBlock=some k->∃ n' c,v=.slice (some ⟨k,0,none⟩) n' c:=fun h k e=>by
   obtain⟨_,⟨rfl,_⟩|⟨g,cap,cur,rfl,_,_,_⟩⟩:=h
   ·simp[Value.ownBlock] at e
   ·simp only[Value.ownBlock,Option.some.injEq] at e;subst e;exact⟨_,_,rfl⟩
  have hBS:¬ OfS (u+1+1) yv zv Bx:=by
   rintro (e|e|e)
   ·omega
   ·obtain⟨n',c,rfl⟩:=hblk hy _ e
    exact hnm (.inl ⟨n',c,by rw[cell_of hc 4];rfl⟩)
   ·obtain⟨n',c,rfl⟩:=hblk hz _ e
    exact hnm (.inr ⟨n',c,by rw[cell_of hc 5];rfl⟩)
  have HC:=hid hc
  have HY:=hid hy
  have HZ:=hid hz
  have HXB:=hid hX
  have HBS:=hid hBS
  have HN1:=hid (hn1 hy)
  have HN2:=hid (hn1 hz)
  have HBK:=hid (And.intro (hblk hy) (hblk hz))
  have H6B:=hid h6
  have HBB:=hid hb
  clear hc hy hz hX hBS hn1 hblk h6 hb hnm
  obtain⟨i1,hi1,hz1,hs1,hby1⟩:=info_parts (P:=Tryz.prog) (e:=5) (z:=.int .u8 0) (size:=1) (bytes:=1) (by kernel_rfl)
  obtain⟨i2,hi2,hz2,hs2,hby2⟩:=info_parts (P:=Tryz.prog) (e:=36) (z:=.agg #[.int .i64 0,.int .u32 0]) (size:=2) (bytes:=16) (by kernel_rfl)
  have HI1:=hid hi1
  have HZ1:=hid hz1
  have HS1:=hid hs1
  have HY1:=hid hby1
  have HI2:=hid hi2
  have HZ2:=hid hz2
  have HS2:=hid hs2
  have HY2:=hid hby2
  clear hi1 hz1 hs1 hby1 hi2 hz2 hs2 hby2
  gi_wp2_with fail
  refine rgn_tab (fok_round _ _) 14 [3,4,8,9] (fun xs=>[.pointer (some ⟨u+1+1,4,none⟩),yv,.int .u8 y.b,xs 3,xs 4,.pointer (some ⟨u+1+1,5,none⟩),zv,.agg #[.int .i64 y.s,.int .u32 y.g],xs 8,xs 9,.pointer (some ⟨u+1+1,4,none⟩),undef,.pointer (some ⟨u+1+1,5,none⟩),undef]) (OfJ W (u+1+1) (u+1+1+1+1) pre.length (.int .i64 k') pt yv zv (bytesL pre) (z2v pre) y.b y.s y.g) ?h0 (fun xs ys h=>by simp[h]) ?hs ?hend
  case h0=>exact OfJ.start HY.out HZ.out HC.out
  case hs =>
   dsimp only[List.take,z1c,OpT,z1s]
   (repeat' refine And.intro ?_ ?_)<;>first|refine .inl ⟨rfl,?_⟩|refine .inr ⟨rfl,?_⟩
   ·intro D xs w1 hDk hwt hJ
    skip
    have HJ:=hid hJ
    clear hDk hwt hJ
    go_wp2_with fail
    exact⟨by kernel_rfl,fun _ _=>HJ.out.calm (by decide)⟩
   ·intro D xs w1 hDk hwt hJ
    have hd:D 11=false:=by
     cases e:D 11
     ·rfl
     ·have:=(hJ.o4 (hJ.o11 e)).1
      rw[this] at hDk
      cases hDk
    have hc7:=hJ.c
    rw[hd] at hc7
    have q:=cell_of hc7 4
    clear hc7 hd
    have HJ:=hid hJ
    clear hDk hwt hJ
    go_wp2_with fail
    exact⟨by kernel_rfl,fun _ _=>HJ.out.calm (by decide)⟩
   ·intro D xs w1 hDk hwt hJ
    skip
    have HJ:=hid hJ
    clear hDk hwt hJ
    go_wp2_with fail
    exact⟨by kernel_rfl,fun _ _=>HJ.out.calm (by decide)⟩
   ·intro D xs w1 hDk hwt hJ
    have h4:D 4=false:=by
     cases e:D 4
     ·rfl
     ·have:=(hJ.o4 e).2
      rw[this] at hDk
      cases hDk
    have HJ:=hid hJ
    clear hDk hwt hJ
    go_wp2_with fail
    exact⟨_,by kernel_rfl,fun q hq=>by obtain rfl:=hq rfl;exact HJ.out.lay3 h4⟩
   ·intro D xs w1 hDk hwt hJ
    have hD:D 4=false:=hDk
    have hw1:D 1=true:=hwt 1 (eM (by kernel_rfl))
    have hw2:D 3=true:=hwt 3 (eM (by kernel_rfl))
    obtain⟨a,ea,ha,la⟩:=hJ.l3 hw2 hD
    rw[ea]
    clear ea
    have hown:=hJ.y
    rw[hD] at hown
    simp only[cond_false] at hown
    have HJ:=hid hJ
    have HD:=hid hD
    have HWW:=hid (And.intro hw1 hw2)
    have hsz1:=hJ.m.size
    clear hDk hwt hJ hD hw1 hw2
    refine wpList_append_own_at w1 rfl (.tmp 20) (.tmp 22) 23 rfl (u+1+1+1+1) 5 i1 (.int .u8 0) 1 1 Tryz.underlying23 HI1.out HZ1.out HS1.out HY1.out rfl (by decide) yv (pre.length) (bytesL pre) (by kernel_rfl) hown ⟨a,0,none⟩ 1 1 ([.int .u8 y.b]) (by kernel_rfl) rfl (fun j v hj=>by rw[addr_add0,Nat.zero_add,cell_of ha,List.getElem?_toArray];exact hj) (by simp[Value.oneCell']) (by simp[maxLen];omega) (by omega) (by omega) ?_
    intro v' w2 g1 g2 _ g4
    go_wp2_with fail
    exact⟨v',by kernel_rfl,HJ.out.app4 (by omega) HN1.out HD.out HWW.out g1 g2 g4⟩
   ·intro D xs w1 hDk hwt hJ
    skip
    have HJ:=hid hJ
    clear hDk hwt hJ
    go_wp2_with fail
    exact⟨by kernel_rfl,fun _ _=>HJ.out.calm (by decide)⟩
   ·intro D xs w1 hDk hwt hJ
    have hd:D 13=false:=by
     cases e:D 13
     ·rfl
     ·have:=(hJ.o9 (hJ.o13 e)).1
      rw[this] at hDk
      cases hDk
    have hc7:=hJ.c
    rw[hd] at hc7
    have q:=cell_of hc7 5
    clear hc7 hd
    have HJ:=hid hJ
    clear hDk hwt hJ
    go_wp2_with fail
    exact⟨by kernel_rfl,fun _ _=>HJ.out.calm (by decide)⟩
   ·intro D xs w1 hDk hwt hJ
    have hk:=(hJ.m.block Bx (lt_of_block HXB.out) HBS.out).trans HXB.out;have q0:=cell_of hk 0;have q1:=cell_of hk 1;clear hk
    have HJ:=hid hJ
    clear hDk hwt hJ
    go_wp2_with fail
    exact⟨by kernel_rfl,fun _ _=>HJ.out.calm (by decide)⟩
   ·intro D xs w1 hDk hwt hJ
    have h9:D 9=false:=by
     cases e:D 9
     ·rfl
     ·have:=(hJ.o9 e).2
      rw[this] at hDk
      cases hDk
    have HJ:=hid hJ
    clear hDk hwt hJ
    go_wp2_with fail
    exact⟨_,by kernel_rfl,fun q hq=>by obtain rfl:=hq rfl;exact HJ.out.lay8 h9⟩
   ·intro D xs w1 hDk hwt hJ
    have hD:D 9=false:=hDk
    have hw1:D 6=true:=hwt 6 (eM (by kernel_rfl))
    have hw2:D 8=true:=hwt 8 (eM (by kernel_rfl))
    obtain⟨a,ea,ha,la⟩:=hJ.l8 hw2 hD
    rw[ea]
    clear ea
    have hown:=hJ.z
    rw[hD] at hown
    simp only[cond_false] at hown
    have HJ:=hid hJ
    have HD:=hid hD
    have HWW:=hid (And.intro hw1 hw2)
    have hsz1:=hJ.m.size
    clear hDk hwt hJ hD hw1 hw2
    refine wpList_append_own_at w1 rfl (.tmp 25) (.tmp 27) 39 rfl (u+1+1+1+1) 36 i2 (.agg #[.int .i64 0,.int .u32 0]) 2 16 Tryz.underlying39 HI2.out HZ2.out HS2.out HY2.out rfl (by decide) zv (pre.length) (z2v pre) (by kernel_rfl) hown ⟨a,0,none⟩ 1 1 ([.int .i64 y.s,.int .u32 y.g]) (by kernel_rfl) rfl (fun j v hj=>by rw[addr_add0,Nat.zero_add,cell_of ha,List.getElem?_toArray];exact hj) (by simp[Value.oneCell']) (by simp[maxLen];omega) (by omega) (by omega) ?_
    intro v' w2 g1 g2 _ g4
    go_wp2_with fail
    exact⟨v',by kernel_rfl,HJ.out.app9 (by omega) HN2.out HD.out HWW.out g1 g2 g4⟩
   ·intro D xs w1 hDk hwt hJ
    skip
    have HJ:=hid hJ
    clear hDk hwt hJ
    go_wp2_with fail
    exact⟨by kernel_rfl,fun _ _=>HJ.out.calm (by decide)⟩
   ·intro D xs w1 hDk hwt hJ
    have hw1:D 4=true:=hwt 4 (eM (by kernel_rfl))
    have hown:=hJ.y
    rw[hw1] at hown
    simp only[cond_true] at hown
    obtain⟨sa,sn,sc,es⟩:=own_form hown
    have hst:=hJ.st11 (by omega) hw1
    rw[es] at hst ⊢
    have hcc:=hJ.c
    have q:=cell_of hcc 4
    have qf:=z0e hcc 4
    have HST:=hid hst
    clear hDk hwt hJ hown hst hcc hw1
    go_wp2_with fail
    exact⟨by kernel_rfl,fun q _=>HST.out q⟩
   ·intro D xs w1 hDk hwt hJ
    skip
    have HJ:=hid hJ
    clear hDk hwt hJ
    go_wp2_with fail
    exact⟨by kernel_rfl,fun _ _=>HJ.out.calm (by decide)⟩
   ·intro D xs w1 hDk hwt hJ
    have hw1:D 9=true:=hwt 9 (eM (by kernel_rfl))
    have hown:=hJ.z
    rw[hw1] at hown
    simp only[cond_true] at hown
    obtain⟨sa,sn,sc,es⟩:=own_form hown
    have hst:=hJ.st13 (by omega) hw1
    rw[es] at hst ⊢
    have hcc:=hJ.c
    have q:=cell_of hcc 5
    have qf:=z0e hcc 5
    have HST:=hid hst
    clear hDk hwt hJ hown hst hcc hw1
    go_wp2_with fail
    exact⟨by kernel_rfl,fun q _=>HST.out q⟩
  case hend =>
   intro D xs w1 hD hJ
   have HE:=hid (of_end (w:=w) hs4 hD hJ HC.out HY.out HZ.out H6B.out HBB.out hsz)
   clear hD hJ
   gi_wp2_with fail
   exact HE.out
 case done =>
  rintro D xs W hD rfl ⟨⟨yv,zv,hc,hy,hz⟩,h6,hb,hsz⟩ hdf
  clear hmt hmf HIO HAO HML H6 H7 H8
  obtain⟨yb,ycp,rfl⟩:=own_form2 hy
  obtain⟨zb,zcp,rfl⟩:=own_form2 hz
  have q0:=cell_of hc 0
  have q1:=cell_of hc 1
  have q2:=cell_of hc 2
  have q3:=cell_of hc 3
  have q4:=cell_of hc 4
  have q5:=cell_of hc 5
  have p0:=cell_of h6 0
  have p1:=cell_of h6 1
  have p2:=cell_of h6 2
  have p3:=cell_of h6 3
  have p4:=cell_of h6 4
  have p5:=cell_of h6 5
  have qf:=z0e h6
  have HLS:=hid (of_last (k':=k') (pt:=pt) h6 hy hz hb (by omega:u+1+1+1+1<=D) hdf)
  clear hy hz hc h6 hb hdf
  go_wp2_with fail
  obtain⟨l1,l2,l3,l4,l5⟩:=HLS.out
  obtain⟨fs,hus⟩:∃ fs,Tryz.prog.underlying 102=some (.struct fs):=⟨_,rfl⟩
  refine⟨by simp,.inl ⟨_,_,rfl,run_takeDeferred l1,?_⟩⟩
  exact⟨_,results_cell_row rfl _ _ (u+1) _ _ _ _ rfl l2 hus rfl (by kernel_rfl),_,_,_,_,rfl,l3,l4,by rw[hu];exact l5⟩
 case stop=>exact fun D pre W hD hp h hk=>h.elim
theorem of_few (x r:Nat) (hL:L.length<=256) (hK:FewL 244 w x L r) :
 Calls Tryz.prog 78 #[(.agg #[.int .i64 k,.string ⟨#[]⟩,.string ⟨#[]⟩,.string pt,.slice ya yn yc,.slice za zn zc]),.iface 229 (.pointer (some ⟨x,0,none⟩)),.int .i64 k'] w fun e w'=>∃ ya' yc' za' zc',e=.returned (.agg #[.int .i64 k',.string ⟨#[]⟩,.string ⟨#[]⟩,.string pt,.slice ya' L.length yc',.slice za' L.length zc']) /\
  w'.ownsRow 0 5 1 (.slice ya' L.length yc') L.length (bytesL L)/\w'.ownsRow 0 36 2 (.slice za' L.length zc') L.length (z2v L)/\Below w.heap.size w w' :=
 of_gen (g1:=189) (fun w=>by kernel_rfl) (fun w=>F.all_at w) (enters_of Tryz.func182 (by kernel_rfl) rfl) (enters_of Tryz.func189 (by kernel_rfl) rfl) fun W B hb h8=>(F.all_own B x r L W h8 (hK.same (hb.block x hK.lt))).up hL
theorem of_many (x gr gu r:Nat) (hK:ManyK 251 36 4 w x gr gu r L) :
 Calls Tryz.prog 78 #[(.agg #[.int .i64 k,.string ⟨#[]⟩,.string ⟨#[]⟩,.string pt,.slice ya yn yc,.slice za zn zc]),.iface 232 (.pointer (some ⟨x,0,none⟩)),.int .i64 k'] w fun e w'=>∃ ya' yc' za' zc',e=.returned (.agg #[.int .i64 k',.string ⟨#[]⟩,.string ⟨#[]⟩,.string pt,.slice ya' L.length yc',.slice za' L.length zc']) /\
  w'.ownsRow 0 5 1 (.slice ya' L.length yc') L.length (bytesL L)/\w'.ownsRow 0 36 2 (.slice za' L.length zc') L.length (z2v L)/\Below w.heap.size w w' :=
 of_gen (g1:=203) (fun w=>by kernel_rfl) (fun w=>M.mAll_at w) (enters_of Tryz.func196 (by kernel_rfl) rfl) (enters_of Tryz.func203 (by kernel_rfl) rfl) fun W B hb h8=>M.mAll1_own B x gr gu r L W h8 ⟨by obtain⟨M,h1,h2⟩:=hK.m;exact⟨M,h1.keep hb,h2⟩⟩
end
section
variable {w w':World} {B r:Nat} {v:Value} {L:List Kd}
theorem KidsAt.mod {S:Nat->Prop} (h:KidsAt B w v L r) (k:Mod S w w') (hS:∀ i,B<=i->¬ S i):KidsAt B w' v L r:=by
 rcases h with ⟨x,hx,e,hF⟩|⟨x,gr,gu,hx,e,hM⟩
 ·exact .inl ⟨x,hx,e,hF.same (k.block x hF.lt (hS x hx))⟩
 ·obtain⟨M,h1,h2⟩:=hM.m
  exact .inr ⟨x,gr,gu,hx,e,⟨M,h1.mod k (hS _ hx.1) (hS _ hx.2.1) (hS _ hx.2.2),h2⟩⟩
theorem z0n {S:Nat->Prop} (h:Below w.heap.size w w'):Mod S w w':=⟨h.os,h.tape,h.output,h.size,fun k hk _=>h.block k hk⟩
theorem KidsAt.keep (h:KidsAt B w v L r) (k:Below w.heap.size w w'):KidsAt B w' v L r:=h.mod (z0n (S:=fun _=>False) k) (fun _ _ h=>h)
theorem KidsAt.mono {B':Nat} (h:KidsAt B w v L r) (hB:B'<=B):KidsAt B' w v L r:=by
 rcases h with ⟨x,hx,e,hF⟩|⟨x,gr,gu,hx,e,hM⟩
 ·exact .inl ⟨x,Nat.le_trans hB hx,e,hF⟩
 ·exact .inr ⟨x,gr,gu,⟨Nat.le_trans hB hx.1,Nat.le_trans hB hx.2.1,Nat.le_trans hB hx.2.2⟩,e,hM⟩
end
structure LJ (W0:World) (c4 iL iS:Nat) (L:List Kd) (r:Nat) (fx:List Nat) (tab:Nat->Value) (o0 o1:Obj) (D:Nat->Bool) (xs:Nat->Value) (w:World):Prop where
 m:Mod (·=c4) W0 w
 v:∀ j,D j=true->j∈fx->xs j=tab j
 l:D iL=true->KidsAt W0.heap.size w (xs iL) L r
 c:w.heap[c4]?=some (cond (D iS) o1 o0)
section
variable {W0 w w':World} {c4 iL iS:Nat} {L:List Kd} {r:Nat} {fx:List Nat} {tab:Nat->Value} {o0 o1:Obj} {D:Nat->Bool} {xs:Nat->Value}
theorem LJ.start (hc:W0.heap[c4]?=some o0):LJ W0 c4 iL iS L r fx tab o0 o1 (fun _=>false) (fun _=>undef) W0.drew :=
 ⟨(Mod.refl _ _).drew,fun j h=>(by cases h),fun h=>(by cases h),hc⟩
theorem LJ.calm (h:LJ W0 c4 iL iS L r fx tab o0 o1 D xs w) (_h4:c4<W0.heap.size) {i:Nat} {u:Value} (hb:Below w.heap.size w w') (h1:i≠iL:=by decide) (h2:i≠iS:=by decide) (hu:i∈fx->u=tab i:=by intro h;cases h):LJ W0 c4 iL iS L r fx tab o0 o1 (fun j=>D j || j == i) (fun j=>if j=i then u else xs j) w':=by
 refine⟨h.m.trans (z0n hb) (fun _ _ e=>e),fun j hj hr=>?_,fun e=>?_,?_⟩
 ·by_cases e:j=i
  ·subst e;simp only[if_pos];exact hu hr
  ·simp only[if_neg e];exact h.v j (by simpa[e] using hj) hr
 ·have hn:¬ iL=i:=fun e=>h1 e.symm
  simp only[if_neg hn]
  exact (h.l (by simpa[hn] using e)).keep hb
 ·have hn:¬ iS=i:=fun e=>h2 e.symm
  have e:(D iS || iS == i)=D iS:=by simp[hn]
  simp only[e]
  exact (hb.block c4 (lt_of_block h.c)).trans h.c
theorem LJ.laid (h:LJ W0 c4 iL iS L r fx tab o0 o1 D xs w) {u:Value} (hk:KidsAt w.heap.size w' u L r) (hb:Below w.heap.size w w') (hne:iL≠iS:=by decide) (hf:iL ∉ fx:=by decide):LJ W0 c4 iL iS L r fx tab o0 o1 (fun j=>D j || j == iL) (fun j=>if j=iL then u else xs j) w':=by
 refine⟨h.m.trans (z0n hb) (fun _ _ e=>e),fun j hj hr=>?_,fun _=>?_,?_⟩
 ·have e:¬ j=iL:=fun e=>hf (e ▸ hr)
  simp only[if_neg e];exact h.v j (by simpa[e] using hj) hr
 ·simp only[if_pos];exact hk.mono h.m.size
 ·have hn:¬ iS=iL:=fun e=>hne e.symm
  have e:(D iS || iS == iL)=D iS:=by simp[hn]
  simp only[e]
  exact (hb.block c4 (lt_of_block h.c)).trans h.c
theorem LJ.store (h:LJ W0 c4 iL iS L r fx tab o0 o1 D xs w) (h4:c4<W0.heap.size) {u:Value} (hm:Mod (·=c4) w w') (hc:w'.heap[c4]?=some o1) (hne:iL≠iS:=by decide) (hf:iS ∉ fx:=by decide):LJ W0 c4 iL iS L r fx tab o0 o1 (fun j=>D j || j == iS) (fun j=>if j=iS then u else xs j) w':=by
 refine⟨h.m.trans hm (fun _ _ e=>e),fun j hj hr=>?_,fun e=>?_,?_⟩
 ·have e:¬ j=iS:=fun e=>hf (e ▸ hr)
  simp only[if_neg e];exact h.v j (by simpa[e] using hj) hr
 ·simp only[if_neg hne]
  exact (h.l (by simpa[hne] using e)).mod hm (fun i hi e=>by subst e;omega)
 ·simp only[beq_self_eq_true,Bool.or_true,cond_true];exact hc
end
section
variable {w w':World} {k:Nat} {pt:ByteArray} {ya za:Option Addr} {yn yc zn zc:Nat} {L:List Kd}
theorem roomOf_four (h1:2<=k) (h2:k<=5):z0v k=4\/z0v k=16\/z0v k=48\/z0v k=256:=by
 rcases (by omega:k=2\/k=3\/k=4\/k=5) with rfl|rfl|rfl|rfl<;>simp[z0v]
theorem mod_set2 (w:World) (c:Nat) (v v':Value):Mod (·=c) w ((w.setCell ⟨c,0,none⟩ v).setCell ⟨c,1,none⟩ v') :=
 Mod.setCell (S:=(·=c)) (p:=⟨c,1,none⟩) (Mod.setCell (S:=(·=c)) (p:=⟨c,0,none⟩) (Mod.refl _ _) (.inl rfl) v) (.inl rfl) v'
theorem set2_at {T:TypeId} {c:Nat} {a b v':Value} (h:w.heap[c]?=some (.cells #[a,b] T (0,0))):((w.setCell ⟨c,0,none⟩ v).setCell ⟨c,1,none⟩ v').heap[c]?=some (.cells #[v,v'] T (0,0)):=by
 have:=heap_set (i:=1) (v:=v') (heap_set (i:=0) (v:=v) h)
 simpa using this
set_option maxRecDepth 20000 in
set_option maxHeartbeats 4000000 in
theorem Find_at (y:Int) (hy:0<=y/\y<256) (h:NodeIn w k pt ya yn yc za zn zc L) (hr:RoomsAt w) (hm:MayB k zn pt) :
 Calls Tryz.prog 66 #[(.agg #[.int .i64 k,.string ⟨#[]⟩,.string ⟨#[]⟩,.string pt,.slice ya yn yc,.slice za zn zc]),.int .u8 y] w fun e w'=>e=.returned (.tuple #[.agg #[.int .i64 ((z0p L y).elim 0 Kd.s),.int .u32 ((z0p L y).elim 0 Kd.g)],.bool (z0p L y).isSome])/\Below w.heap.size w w':=by
 have hnf:∀ (w:World) (b:Nat),(nilAhead 410 229 (.pointer (some ⟨b,0,none⟩)) "Find").run Tryz.prog w=.ok (some false) w:=fun w b=>by kernel_rfl
 have hnm:∀ (w:World) (b:Nat),(nilAhead 410 232 (.pointer (some ⟨b,0,none⟩)) "Find").run Tryz.prog w=.ok (some false) w:=fun w b=>by kernel_rfl
 have hmt:∀ (w:World) (b:Nat),(method 410 229 (.pointer (some ⟨b,0,none⟩)) "Find").run Tryz.prog w=.ok (183,.pointer (some ⟨b,0,none⟩)) w:=fun w b=>by kernel_rfl
 have hmu:∀ (w:World) (b:Nat),(method 410 232 (.pointer (some ⟨b,0,none⟩)) "Find").run Tryz.prog w=.ok (197,.pointer (some ⟨b,0,none⟩)) w:=fun w b=>by kernel_rfl
 have hs1:(w.alloc (.cells #[.int .i64 k,.string ⟨#[]⟩,.string ⟨#[]⟩,.string pt,.slice ya yn yc,.slice za zn zc] 102 (0,0))).heap.size=w.heap.size+1:=by simp
 have hs2:((w.alloc (.cells #[.int .i64 k,.string ⟨#[]⟩,.string ⟨#[]⟩,.string pt,.slice ya yn yc,.slice za zn zc] 102 (0,0))).alloc (.cells #[.int .i64 0,.int .u32 0] 36 (0,0))).heap.size=w.heap.size+1+1:=by simp
 have hs3:(((w.alloc (.cells #[.int .i64 k,.string ⟨#[]⟩,.string ⟨#[]⟩,.string pt,.slice ya yn yc,.slice za zn zc] 102 (0,0))).alloc (.cells #[.int .i64 0,.int .u32 0] 36 (0,0))).alloc (.cells #[.int .i64 k,.string ⟨#[]⟩,.string ⟨#[]⟩,.string pt,.slice ya yn yc,.slice za zn zc] 165 (0,0))).heap.size=w.heap.size+1+1+1:=by simp
 have b0:=z0m (o':=(.cells #[.int .i64 k,.string ⟨#[]⟩,.string ⟨#[]⟩,.string pt,.slice ya yn yc,.slice za zn zc] 165 (0,0))) (z0m (o':=(.cells #[.int .i64 0,.int .u32 0] 36 (0,0))) (z0a w (.cells #[.int .i64 k,.string ⟨#[]⟩,.string ⟨#[]⟩,.string pt,.slice ya yn yc,.slice za zn zc] 102 (0,0))))
 have b1:=z0m (o':=(.cells #[.int .i64 k,.string ⟨#[]⟩,.string ⟨#[]⟩,.string pt,.slice ya yn yc,.slice za zn zc] 165 (0,0))) (z0a (w.alloc (.cells #[.int .i64 k,.string ⟨#[]⟩,.string ⟨#[]⟩,.string pt,.slice ya yn yc,.slice za zn zc] 102 (0,0))) (.cells #[.int .i64 0,.int .u32 0] 36 (0,0)))
 have b2:=z0a ((w.alloc (.cells #[.int .i64 k,.string ⟨#[]⟩,.string ⟨#[]⟩,.string pt,.slice ya yn yc,.slice za zn zc] 102 (0,0))).alloc (.cells #[.int .i64 0,.int .u32 0] 36 (0,0))) (.cells #[.int .i64 k,.string ⟨#[]⟩,.string ⟨#[]⟩,.string pt,.slice ya yn yc,.slice za zn zc] 165 (0,0))
 rw[hs1] at b1
 rw[hs2] at b2
 have hB:Below w.heap.size w (((w.alloc (.cells #[.int .i64 k,.string ⟨#[]⟩,.string ⟨#[]⟩,.string pt,.slice ya yn yc,.slice za zn zc] 102 (0,0))).alloc (.cells #[.int .i64 0,.int .u32 0] 36 (0,0))).alloc (.cells #[.int .i64 k,.string ⟨#[]⟩,.string ⟨#[]⟩,.string pt,.slice ya yn yc,.slice za zn zc] 165 (0,0))):=(((Below.refl _ _).alloc (Nat.le_refl _) _).alloc (by simp) _).alloc (by simp;omega) _
 have HM:=hid (may_at (h.keep hB) (hr.keep hB) hm)
 have HI:=hid (h.keep hB)
 have HR:=hid (hr.keep hB)
 have HY:=hid hy
 have HR0:=hid hr
 have HI0:=hid h
 clear h hr hm hy
 go_enter Tryz.func66,Tryz.ntmps66
 go_wp2_with fail
 have hK2:=HI.out.k2
 generalize hWl:(((w.alloc (.cells #[.int .i64 k,.string ⟨#[]⟩,.string ⟨#[]⟩,.string pt,.slice ya yn yc,.slice za zn zc] 102 (0,0))).alloc (.cells #[.int .i64 0,.int .u32 0] 36 (0,0))).alloc (.cells #[.int .i64 k,.string ⟨#[]⟩,.string ⟨#[]⟩,.string pt,.slice ya yn yc,.slice za zn zc] 165 (0,0)))=Wl at *
 generalize hu:w.heap.size=u at *
 refine HM.out.mono ?_
 rintro e w2 ⟨rfl,hB2⟩
 have H0:=hid ((hB2.block _ (lt_of_block b0)).trans b0)
 have H1:=hid ((hB2.block _ (lt_of_block b1)).trans b1)
 have H2:=hid ((hB2.block _ (lt_of_block b2)).trans b2)
 have HI2:=hid (HI.out.keep hB2)
 have HR2:=hid (HR.out.keep hB2)
 have HBB:=hid (hB.trans (hB2.mono (by omega)))
 have HLT:=hid (lt_of_block H1.out)
 have HU:=hid hu
 have HUP:=hid (show 0<u by rw[<- hu];exact HR0.out.lt)
 clear hB2 hB b0 b1 b2 HM HI HR hWl hs1 hs2 hs3 hu
 go_wp2_with fail
 refine z0r 11 [4] (fun xs=>[(.agg #[.int .i64 k,.string ⟨#[]⟩,.string ⟨#[]⟩,.string pt,.slice ya yn yc,.slice za zn zc]),.pointer (some ⟨u,0,none⟩),.int .i64 k,.int .i64 (z0v k),xs 4,.int .u8 y,.tuple #[.agg #[.int .i64 ((z0p L y).elim 0 Kd.s),.int .u32 ((z0p L y).elim 0 Kd.g)],.bool (z0p L y).isSome],.agg #[.int .i64 ((z0p L y).elim 0 Kd.s),.int .u32 ((z0p L y).elim 0 Kd.g)],.bool (z0p L y).isSome,undef,.bool (z0p L y).isSome]) (LJ w2 (u+1) 4 9 L (z0v k) [] (fun _=>undef) (.cells #[.int .i64 0,.int .u32 0] 36 (0,0)) (.cells #[.int .i64 ((z0p L y).elim 0 Kd.s),.int .u32 ((z0p L y).elim 0 Kd.g)] 36 (0,0))) ?h0 (fun xs ys h=>by simp[h]) ?hs ?hend
 case h0=>exact LJ.start H1.out
 case hs =>
  dsimp only[List.take,z1c,OpT,z1s]
  (repeat' refine And.intro ?_ ?_)<;>first|refine .inl ⟨rfl,?_⟩|refine .inr ⟨rfl,?_⟩
  iterate 3
   ·intro D xs w1 hDk hwt hJ
    have hk0:=(hJ.m.block u (lt_of_block H0.out) (by show ¬ u=u+1;omega)).trans H0.out
    have hk2:=(hJ.m.block (u+1+1) (lt_of_block H2.out) (by show ¬ u+1+1=u+1;omega)).trans H2.out
    have q0:=cell_of hk0 0
    have p0:=cell_of hk2 0
    have p1:=cell_of hk2 1
    have p2:=cell_of hk2 2
    have p3:=cell_of hk2 3
    have p4:=cell_of hk2 4
    have p5:=cell_of hk2 5
    have HJ:=hid hJ
    clear hDk hwt hJ hk0 hk2
    go_wp2_with fail
    exact⟨by kernel_rfl,fun _ _=>HJ.out.calm HLT.out (Below.refl _ _)⟩
  ·intro D xs w1 hDk hwt hJ
   have HRM:=hid (room_at k hK2 w1 (HR2.out.same (hJ.m.block 0 HR2.out.lt (by show ¬ 0=u+1;omega))))
   have HJ:=hid hJ
   clear hDk hwt hJ
   go_wp2_with (go_at_call 77;refine HRM.out.mono ?_;rintro e w3 ⟨rfl,rfl⟩)
   exact⟨by kernel_rfl,fun _ _=>HJ.out.calm HLT.out (Below.refl _ _)⟩
  ·intro D xs w1 hDk hwt hJ
   have hb1:Below w.heap.size w w1:=by
    rw[HU.out]
    exact HBB.out.trans ⟨hJ.m.os,hJ.m.tape,hJ.m.output,hJ.m.size,fun i hi=>hJ.m.block i (by have:=HLT.out;omega) (by show ¬ i=u+1;omega)⟩
   have HLD:=hid (laid_at (z0v k) (HI0.out.keep hb1) (roomOf_four HI0.out.k1 HI0.out.k2) HI0.out.len)
   have HJ:=hid hJ
   clear hDk hwt hJ hb1
   go_wp2_with (go_at_call 76;refine HLD.out.mono ?_;rintro e w3 ⟨v,rfl,hK,hb⟩)
   exact⟨v,by kernel_rfl,fun q hq=>by obtain rfl:=hq rfl;exact HJ.out.laid hK hb⟩
  ·intro D xs w1 hDk hwt hJ
   have hk0:=(hJ.m.block u (lt_of_block H0.out) (by show ¬ u=u+1;omega)).trans H0.out
   have hk2:=(hJ.m.block (u+1+1) (lt_of_block H2.out) (by show ¬ u+1+1=u+1;omega)).trans H2.out
   have q0:=cell_of hk0 0
   have p0:=cell_of hk2 0
   have p1:=cell_of hk2 1
   have p2:=cell_of hk2 2
   have p3:=cell_of hk2 3
   have p4:=cell_of hk2 4
   have p5:=cell_of hk2 5
   have HJ:=hid hJ
   clear hDk hwt hJ hk0 hk2
   go_wp2_with fail
   exact⟨by kernel_rfl,fun _ _=>HJ.out.calm HLT.out (Below.refl _ _)⟩
  ·intro D xs w1 hDk hwt hJ
   have hK:=hJ.l (hwt 4 (eM (by kernel_rfl)))
   have HJ:=hid hJ
   clear hDk hwt hJ
   rcases hK with ⟨x,hx,e4,hF⟩|⟨x,gr,gu,hx,e4,hF⟩
   ·rw[e4]
    have HF:=hid (F.fFind_L y w1 hF)
    clear hF hx
    go_wp2_with (go_at_call 183;refine HF.out.mono ?_;rintro e w3 ⟨rfl,hb⟩)
    exact⟨by kernel_rfl,fun _ _=>HJ.out.calm HLT.out (hb)⟩
   ·rw[e4]
    have HF:=hid (M.find_L y HY.out hF)
    clear hF hx
    go_wp2_with (go_at_call 197;refine HF.out.mono ?_;rintro e w3 ⟨rfl,hb⟩)
    exact⟨by kernel_rfl,fun _ _=>HJ.out.calm HLT.out (hb)⟩
  iterate 2
   ·intro D xs w1 hDk hwt hJ
    have hk0:=(hJ.m.block u (lt_of_block H0.out) (by show ¬ u=u+1;omega)).trans H0.out
    have hk2:=(hJ.m.block (u+1+1) (lt_of_block H2.out) (by show ¬ u+1+1=u+1;omega)).trans H2.out
    have q0:=cell_of hk0 0
    have p0:=cell_of hk2 0
    have p1:=cell_of hk2 1
    have p2:=cell_of hk2 2
    have p3:=cell_of hk2 3
    have p4:=cell_of hk2 4
    have p5:=cell_of hk2 5
    have HJ:=hid hJ
    clear hDk hwt hJ hk0 hk2
    go_wp2_with fail
    exact⟨by kernel_rfl,fun _ _=>HJ.out.calm HLT.out (Below.refl _ _)⟩
  ·intro D xs w1 hDk hwt hJ
   have hD:D 9=false:=hDk
   have hc:=hJ.c
   rw[hD] at hc
   simp only[cond_false] at hc
   have q0:=cell_of hc 0
   have q1:=cell_of hc 1
   have qf:=z0e hc
   have HC:=hid hc
   have HJ:=hid hJ
   clear hDk hwt hJ hD hc
   go_wp2_with fail
   exact⟨by kernel_rfl,fun q _=>HJ.out.store HLT.out (mod_set2 _ _ _ _) (set2_at HC.out)⟩
  ·intro D xs w1 hDk hwt hJ
   have hk0:=(hJ.m.block u (lt_of_block H0.out) (by show ¬ u=u+1;omega)).trans H0.out
   have hk2:=(hJ.m.block (u+1+1) (lt_of_block H2.out) (by show ¬ u+1+1=u+1;omega)).trans H2.out
   have q0:=cell_of hk0 0
   have p0:=cell_of hk2 0
   have p1:=cell_of hk2 1
   have p2:=cell_of hk2 2
   have p3:=cell_of hk2 3
   have p4:=cell_of hk2 4
   have p5:=cell_of hk2 5
   have HJ:=hid hJ
   clear hDk hwt hJ hk0 hk2
   go_wp2_with fail
   exact⟨by kernel_rfl,fun _ _=>HJ.out.calm HLT.out (Below.refl _ _)⟩
 case hend =>
  intro D xs w1 hD hJ
  have hc:=hJ.c
  rw[hD 9 (by omega)] at hc
  simp only[cond_true] at hc
  dsimp only[List.take,z1s,List.drop]
  have q0:=cell_of hc 0
  have q1:=cell_of hc 1
  have hbl:Below u w w1:=HBB.out.trans ⟨hJ.m.os,hJ.m.tape,hJ.m.output,hJ.m.size,fun i hi=>hJ.m.block i (by have:=HLT.out;omega) (by show ¬ i=u+1;omega)⟩
  have HBL:=hid hbl
  clear hD hJ hc hbl
  go_wp2_with fail
  refine bodyPost_ret (v:=.tuple #[.agg #[_,_],_]) (by simp[results,Tryz.results66,go_sem,q0,q1]) rfl ⟨rfl,?_⟩
  rw[HU.out]
  exact HBL.out
end
end Go.Proofs.YtgdmfledhhoedaaGreatDoor.O
namespace Go.Burg
open Go Go.RowKit
theorem z1v {P:Program} {fn:Func} {p u:Tmp} {ty:TypeId} (h:fn.results=#[.cell p ty,.tmp u]) (tmps:Array Value) (w:World) (g:Nat) (t:TypeId) (cs:Array Value) (fr:Nat × Nat) (d:TypeDesc)
 (hp:tmps.getD p undef=.pointer (some ⟨g,0,none⟩)) (hg:w.heap[g]?=some (.cells cs t fr))
 (hu:P.underlying ty=some d) (hd:(match d with | .struct _ | .array _ _=>true|_=>false)=true) (hi:(P.info? ty).map (·.size)=some cs.size) :
 (results fn tmps).run P w=.ok (.tuple #[.agg cs,tmps.getD u undef]) w:=by
 rw[results_cell_tmp h,hp]
 simp[asAddr,run_loadVar_row w g t ty cs fr d hg hu hd hi]
end Go.Burg
namespace Go.Proofs.YtgdmfledhhoedaaGreatDoor.O
set_option maxRecDepth 8000
open Go.ChangeShapes Go.WideShapes Go.ChangeAt Go.RowKit Go.Burg
variable {c:Nat} {T:TypeId}
theorem set6_at {W:World} {a0 a1 a2 a3 a4 a5:Value} (b0 b1 b2 b3 b4 b5:Value) (h:W.heap[c]?=some (.cells #[a0,a1,a2,a3,a4,a5] T (0,0))) :
 ((((((W.setCell ⟨c,0,none⟩ b0).setCell ⟨c,1,none⟩ b1).setCell ⟨c,2,none⟩ b2).setCell ⟨c,3,none⟩ b3).setCell ⟨c,4,none⟩ b4).setCell ⟨c,5,none⟩ b5).heap[c]?=some (.cells #[b0,b1,b2,b3,b4,b5] T (0,0))/\Mod (·=c) W ((((((W.setCell ⟨c,0,none⟩ b0).setCell ⟨c,1,none⟩ b1).setCell ⟨c,2,none⟩ b2).setCell ⟨c,3,none⟩ b3).setCell ⟨c,4,none⟩ b4).setCell ⟨c,5,none⟩ b5):=by
 have stp:∀ {A:World} (j:Nat) (v:Value),Mod (·=c) W A->Mod (·=c) W (A.setCell ⟨c,j,none⟩ v):=fun j v h=>Mod.setCell (S:=(·=c)) (p:=⟨c,j,none⟩) h (.inl rfl) v
 refine⟨?_,stp _ _ (stp _ _ (stp _ _ (stp _ _ (stp _ _ (stp _ _ (Mod.refl _ _))))))⟩
 have:=heap_set (i:=5) (v:=b5) (heap_set (i:=4) (v:=b4) (heap_set (i:=3) (v:=b3) (heap_set (i:=2) (v:=b2) (heap_set (i:=1) (v:=b1) (heap_set (i:=0) (v:=b0) h)))))
 simpa using this
variable {v:Value}
theorem z1m {w:World} {B:Nat} {e:TypeId} {s n:Nat} {xs:List Value} {cs:Array Value} (h:w.ownsRow B e s v n xs) (hc:w.heap[c]?=some (.cells cs T (0,0))) (hne:T≠e):∀ k,v.ownBlock=some k->¬ k=c:=by
 rintro k h1 rfl
 obtain⟨_,⟨rfl,_⟩|⟨g,cap,cur,rfl,_,hg,_⟩⟩:=h
 ·simp[Value.ownBlock] at h1
 ·simp only[Value.ownBlock,Option.some.injEq] at h1
  subst h1
  rw[hc] at hg
  simp at hg
  exact hne hg.2
theorem z2f (L:List Kd) (y s g:Int):(z1t L y s g).length=L.length:=by simp[z1t]
theorem turnK_ok {L:List Kd} {y s g:Int} (h:∀ x∈L,x.ok) (hk:(⟨y,s,g⟩:Kd).ok):∀ x∈z1t L y s g,x.ok:=by
 intro x hx
 obtain⟨z,hz,rfl⟩:=List.mem_map.1 hx
 split
 ·exact hk
 ·exact h z hz
section
variable {w w':World} {k k':Nat} {pt:ByteArray} {ya za:Option Addr} {yn yc zn zc:Nat} {L:List Kd}
theorem of_any (hL:L.length<=256) (hK:KidsK w v L) :
 Calls Tryz.prog 78 #[.agg #[.int .i64 k,.string ⟨#[]⟩,.string ⟨#[]⟩,.string pt,.slice ya yn yc,.slice za zn zc],v,.int .i64 k'] w fun e w'=>∃ ya' yc' za' zc',e=.returned (.agg #[.int .i64 k',.string ⟨#[]⟩,.string ⟨#[]⟩,.string pt,.slice ya' L.length yc',.slice za' L.length zc']) /\
  w'.ownsRow 0 5 1 (.slice ya' L.length yc') L.length (bytesL L)/\w'.ownsRow 0 36 2 (.slice za' L.length zc') L.length (z2v L)/\Below w.heap.size w w':=by
 rcases hK with ⟨x,r,rfl,h⟩|⟨x,gr,gu,r,rfl,h⟩
 ·exact of_few x r hL h
 ·exact of_many x gr gu r h
end
end Go.Proofs.YtgdmfledhhoedaaGreatDoor.O
