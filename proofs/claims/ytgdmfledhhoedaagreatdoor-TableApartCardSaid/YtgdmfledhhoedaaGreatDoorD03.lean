/- Part 3 of 27. -/
import Derived.Test.YtgdmfledhhoedaaGreatDoorD02
import Derived.Test.YtgdmfledhhoedaaGreatDoorD01
import Derived.IntWalk
import Derived.OwnWalk
namespace Go.Proofs.YtgdmfledhhoedaaGreatDoor.F
set_option maxRecDepth 8000
open Go.ChangeShapes Go.WideShapes Go.ChangeAt Go.RowKit Go.Burg
theorem addr_add (x n j:Nat):(⟨x,n,none⟩:Addr).add j=⟨x,n+j,none⟩:=by unfold Addr.add;split<;>simp_all
variable {F:Fw} {n x:Nat}
theorem copyB_at (ty:TypeId) (w:World) (h:FwAt 244 w x F) (hn:n<=F.n) (h15:F.n<=15) :
 (Builtin.copy_ #[23,23] ty #[.slice (some ⟨x,n+1,none⟩) (15 - n) (15 - n),.slice (some ⟨x,n,none⟩) (F.n - n) (16 - n)]).run Tryz.prog w=.ok (goInt ((F.n - n:Nat))) (w.setRow x (FwRow (F.upB n)).toArray):=by
 have hm:Nat.min (F.n - n) (15 - n)=F.n - n:=Nat.min_eq_left (by omega)
 have:=run_copy_rowc (P:=Tryz.prog) w 23 23 ty 5 x (n+1) (15 - n) (15 - n) ⟨x,n,none⟩ (F.n - n) (16 - n) (FwRow F).toArray 244 ((List.range (F.n - n)).map (fun j=>Value.int .u8 (F.b (n+j)))) 1 Tryz.underlying23 (by kernel_rfl) h (by rw[hm];simp) (fun j v hj=>by
  have hj2:j<F.n - n:=by
   have:=(List.getElem?_eq_some_iff.1 hj).1
   simpa using this
  simp only[List.getElem?_map,List.getElem?_range hj2,Option.map_some,Option.some.injEq] at hj
  subst hj
  rw[addr_add]
  exact h.byte (by omega)) (by simp[z1y];omega) (fun v hv=>by
  obtain⟨j,_,rfl⟩:=List.mem_map.1 hv
  rfl)
 rw[hm,List.toList_toArray,upB_row F hn h15] at this
 exact this
theorem copyR_at (ty:TypeId) (w:World) (h:FwAt 244 w x F) (hn:n<=F.n) (h15:F.n<=15) :
 (Builtin.copy_ #[39,39] ty #[.slice (some ⟨x,16+(n+1) * 2,none⟩) (15 - n) (15 - n),.slice (some ⟨x,16+n * 2,none⟩) (F.n - n) (16 - n)]).run Tryz.prog w=.ok (goInt ((F.n - n:Nat))) (w.setRow x (FwRow (F.upR n)).toArray):=by
 have hm:Nat.min (F.n - n) (15 - n)=F.n - n:=Nat.min_eq_left (by omega)
 have hlen:=pairs_len (fun j=>Value.int .i64 (F.s (n+j))) (fun j=>Value.int .u32 (F.g (n+j))) (F.n - n)
 have:=run_copy_rowc (P:=Tryz.prog) w 39 39 ty 36 x (16+(n+1) * 2) (15 - n) (15 - n) ⟨x,16+n * 2,none⟩ (F.n - n) (16 - n) (FwRow F).toArray 244 ((List.range (F.n - n)).flatMap fun j=>[Value.int .i64 (F.s (n+j)),Value.int .u32 (F.g (n+j))]) 2 Tryz.underlying39 (by kernel_rfl) h (by rw[hm,hlen]) (fun j v hj=>by
  have hj2:j<(F.n - n) * 2:=by
   have:=(List.getElem?_eq_some_iff.1 hj).1
   rwa [hlen] at this
  rw[pairs_get _ _ _ hj2] at hj
  obtain⟨e1,e2⟩:=h.ref (i:=n+j / 2) (by omega)
  rw[addr_add]
  by_cases h3:j % 2=0
  ·rw[if_pos h3] at hj
   cases hj
   rw[<- e1];congr 2;omega
  ·rw[if_neg h3] at hj
   cases hj
   rw[<- e2];congr 2;omega) (by rw[hlen];simp[z1y];omega) (fun v hv=>by
  obtain⟨j,_,h1⟩:=List.mem_flatMap.1 hv
  simp at h1
  rcases h1 with rfl|rfl<;>rfl)
 rw[hm,List.toList_toArray,upR_row F hn h15] at this
 exact this
end Go.Proofs.YtgdmfledhhoedaaGreatDoor.F
namespace Go.Burg
open Go Go.RowKit
theorem wpList_copy_run {P:Program} (w:World) {ops:Array Oper} {rest:List Oper} {o:Oper} {a:Act} {Q:Exit->Act->World->Prop} (hgd:o.guard=none) (d s:Operand) (t t':TypeId)
 (ho:o.op=.call { callee:=.builtin .copy,args:=#[d,s],argTypes:=#[t,t'] }) (v u:Value) (hd:a.eval d=v) (hs:a.eval s=u) {v':Value} {w':World}
 (hr:(Builtin.copy_ #[t,t'] o.type #[v,u]).run P w=.ok v' w') (h:wpList P ops Q rest (a.put o.dst v') w'):wpList P ops Q (o :: rest) a w:=by
 refine wpList_plain hgd fun K hK=>?_
 unfold Oper.wp
 simp[execOp,ho,resolve,invoke,builtin,hd,hs,hr,Result.andThen]
 exact hK _ _ h
def aUp (x o n c:Nat):Addr:=⟨x,if n=15 then o else o+(n+1) * c,none⟩
def Fw.ins (F:Fw) (n:Nat) (y s g:Int):Fw :=
 { b:=fun j=>if j=n then y else (F.upB n).b j,s:=fun j=>if j=n then s else (F.upR n).s j,g:=fun j=>if j=n then g else (F.upR n).g j,n:=F.n+1,room:=F.room }
theorem setRow_block {w:World} {x:Nat} {cs l:Array Value} {T:TypeId} {fz:Nat × Nat} (h:w.heap[x]?=some (.cells cs T fz)):(w.setRow x l).heap[x]?=some (.cells l T fz):=setRow_heap w x _ _ T fz h
theorem mod_setRow (w:World) (x:Nat) (l:Array Value):Mod (·=x) w (w.setRow x l):=⟨rfl,rfl,rfl,by simp[World.setRow],fun k _ hk=>setRow_other w x k l hk⟩
end Go.Burg
namespace Go.Proofs.YtgdmfledhhoedaaGreatDoor.F
set_option maxRecDepth 8000
open Go.ChangeShapes Go.WideShapes Go.ChangeAt Go.RowKit Go.Burg
theorem lenR16:Tryz.prog.arrayLen 240=16:=by kernel_rfl
theorem sizeR16 (w:World):(sizeOf (Tryz.prog.elem 240)).run Tryz.prog w=.ok 2 w:=by kernel_rfl
theorem upB_slice (x n:Nat) (hn:n<=15) (w:World):(Instr.sliceAt 239 (.pointer (some ⟨x,0,none⟩)) (some (.int .i64 (n+1))) none none).run Tryz.prog w=.ok (.slice (some (aUp x 0 n 1)) (15 - n) (15 - n)) w:=by
 rw[run_sliceAt_array_l w 239 ⟨x,0,none⟩ (by kernel_rfl) .i64 ((n:Int)+1) (by omega) (by rw[len16];omega),size16,len16]
 simp only[Result.andThen_ok,slicedAt,aUp]
 have e:((n:Int)+1).toNat=n+1:=by omega
 rw[e]
 by_cases h:n=15
 ·subst h;rfl
 ·have h1:¬ (16=n+1):=by omega
  rw[if_neg h1,if_neg h,addr_add,show 16 - (n+1)=15 - n by omega]
theorem midB_slice (x n m:Nat) (hn:n<=m) (hm:m<=15) (w:World):(Instr.sliceAt 239 (.pointer (some ⟨x,0,none⟩)) (some (.int .i64 n)) (some (.int .i64 m)) none).run Tryz.prog w=.ok (.slice (some ⟨x,n,none⟩) (m - n) (16 - n)) w:=by
 rw[run_sliceAt_array_lh w 239 ⟨x,0,none⟩ (by kernel_rfl) .i64 .i64 (n:Int) m (by omega) (by omega) (by rw[len16];omega),size16,len16]
 simp only[Result.andThen_ok,slicedAt]
 have e:((n:Int)).toNat=n:=by omega
 have e2:((m:Int)).toNat=m:=by omega
 rw[e,e2,if_neg (by omega),addr_add,Nat.zero_add,Nat.mul_one]
theorem upR_slice (x n:Nat) (hn:n<=15) (w:World):(Instr.sliceAt 240 (.pointer (some ⟨x,16,none⟩)) (some (.int .i64 (n+1))) none none).run Tryz.prog w=.ok (.slice (some (aUp x 16 n 2)) (15 - n) (15 - n)) w:=by
 rw[run_sliceAt_array_l w 240 ⟨x,16,none⟩ (by kernel_rfl) .i64 ((n:Int)+1) (by omega) (by rw[lenR16];omega),sizeR16,lenR16]
 simp only[Result.andThen_ok,slicedAt,aUp]
 have e:((n:Int)+1).toNat=n+1:=by omega
 rw[e]
 by_cases h:n=15
 ·subst h;rfl
 ·have h1:¬ (16=n+1):=by omega
  rw[if_neg h1,if_neg h,addr_add,show 16 - (n+1)=15 - n by omega]
theorem midR_slice (x n m:Nat) (hn:n<=m) (hm:m<=15) (w:World):(Instr.sliceAt 240 (.pointer (some ⟨x,16,none⟩)) (some (.int .i64 n)) (some (.int .i64 m)) none).run Tryz.prog w=.ok (.slice (some ⟨x,16+n * 2,none⟩) (m - n) (16 - n)) w:=by
 rw[run_sliceAt_array_lh w 240 ⟨x,16,none⟩ (by kernel_rfl) .i64 .i64 (n:Int) m (by omega) (by omega) (by rw[lenR16];omega),sizeR16,lenR16]
 simp only[Result.andThen_ok,slicedAt]
 have e:((n:Int)).toNat=n:=by omega
 have e2:((m:Int)).toNat=m:=by omega
 rw[e,e2,if_neg (by omega),addr_add]
variable {F:Fw} {n x:Nat}
theorem copyB_up (ty:TypeId) (w:World) (h:FwAt 244 w x F) (hn:n<=F.n) (h15:F.n<=15) :
 (Builtin.copy_ #[23,23] ty #[.slice (some (aUp x 0 n 1)) (15 - n) (15 - n),.slice (some ⟨x,n,none⟩) (F.n - n) (16 - n)]).run Tryz.prog w=.ok (goInt ((F.n - n:Nat))) (w.setRow x (FwRow (F.upB n)).toArray):=by
 by_cases h1:n=15
 ·obtain rfl:=h1
  have e:F.n=15:=by omega
  have:=run_copy_rowc (P:=Tryz.prog) w 23 23 ty 5 x 0 0 0 ⟨x,15,none⟩ 0 1 (FwRow F).toArray 244 [] 1 Tryz.underlying23 (by kernel_rfl) h (by simp) (by simp) (by simp) (by simp)
  rw[e]
  refine this.trans ?_
  rw[List.toList_toArray]
  have h2:=upB_row F (n:=15) (by omega) (by omega)
  rw[<- h2,e]
  simp
 ·have e:aUp x 0 n 1=⟨x,n+1,none⟩:=by unfold aUp;rw[if_neg h1,Nat.zero_add,Nat.mul_one]
  rw[e]
  exact copyB_at ty w h hn h15
theorem copyR_up (ty:TypeId) (w:World) (h:FwAt 244 w x F) (hn:n<=F.n) (h15:F.n<=15) :
 (Builtin.copy_ #[39,39] ty #[.slice (some (aUp x 16 n 2)) (15 - n) (15 - n),.slice (some ⟨x,16+n * 2,none⟩) (F.n - n) (16 - n)]).run Tryz.prog w=.ok (goInt ((F.n - n:Nat))) (w.setRow x (FwRow (F.upR n)).toArray):=by
 by_cases h1:n=15
 ·obtain rfl:=h1
  have e:F.n=15:=by omega
  have:=run_copy_rowc (P:=Tryz.prog) w 39 39 ty 36 x 16 0 0 ⟨x,16+15 * 2,none⟩ 0 1 (FwRow F).toArray 244 [] 2 Tryz.underlying39 (by kernel_rfl) h (by simp) (by simp) (by simp[z1y]) (by simp)
  rw[e]
  refine this.trans ?_
  rw[List.toList_toArray]
  have h2:=upR_row F (n:=15) (by omega) (by omega)
  rw[<- h2,e]
  simp
 ·have e:aUp x 16 n 2=⟨x,16+(n+1) * 2,none⟩:=by unfold aUp;rw[if_neg h1]
  rw[e]
  exact copyR_at ty w h hn h15
end Go.Proofs.YtgdmfledhhoedaaGreatDoor.F
namespace Go.Burg
open Go Go.RowKit
theorem ins_row (F:Fw) {n:Nat} (y s g:Int) (hn:n<=F.n) (h15:F.n<=15) :
 ((((((FwRow ((F.upB n).upR n)).set n (.int .u8 y)).set (16+n * 2) (.int .i64 s)).set (16+n * 2+1) (.int .u32 g)).set 48 (.int .i64 ((F.n:Int)+1))))=FwRow (F.ins n y s g):=by
 refine row_ext (by simp[z1y]) fun k hk=>?_
 have h0:=fwRow_get ((F.upB n).upR n) hk
 have hlen:=z1y ((F.upB n).upR n)
 simp only[List.getElem?_set,List.length_set,hlen]
 by_cases h48:48=k
 ·subst h48;simp[z2j,Fw.ins]
 rw[if_neg h48]
 by_cases h1:16+n * 2+1=k
 ·subst h1
  have e1:¬ (16+n * 2+1<16):=by omega
  have e2:16+n * 2+1<48:=by omega
  have e3:¬ ((16+n * 2+1) % 2=0):=by omega
  have e4:(16+n * 2+1 - 16) / 2=n:=by omega
  simp only[z2j,if_neg e1,if_pos e2,if_neg e3,e4,Fw.ins]
  simp
  omega
 rw[if_neg h1]
 by_cases h2:16+n * 2=k
 ·subst h2
  have e1:¬ (16+n * 2<16):=by omega
  have e2:16+n * 2<48:=by omega
  have e3:((16+n * 2) % 2=0):=by omega
  have e4:(16+n * 2 - 16) / 2=n:=by omega
  simp[z2j,e1,e2,e3,Fw.ins,show 16+n * 2<50 by omega]
 rw[if_neg h2]
 by_cases h3:n=k
 ·subst h3
  simp[z2j,Fw.ins,show n<16 by omega,show n<50 by omega]
 rw[if_neg h3,h0]
 unfold z2j Fw.ins
 by_cases h4:k<16
 ·simp only[if_pos h4]
  rw[if_neg (fun e=>h3 e.symm)]
  rfl
 ·by_cases h5:k<48
  ·have e:¬ ((k - 16) / 2=n):=by omega
   simp only[if_neg h4,if_pos h5,if_neg e]
   rfl
  ·simp only[if_neg h4,if_neg h5,if_neg (show ¬ k=48 from fun e=>h48 e.symm)]
   rfl
def insMid (R:List Value) (n:Nat) (y s g:Int) (b1 b2:Bool):List Value :=
 cond b1 (cond b2 (((R.set (16+n * 2) (.int .i64 s)).set (16+n * 2+1) (.int .u32 g)).set n (.int .u8 y)) (R.set n (.int .u8 y))) (cond b2 ((R.set (16+n * 2) (.int .i64 s)).set (16+n * 2+1) (.int .u32 g)) R)
theorem insMid1 (R:List Value) (n:Nat) (y s g:Int) (b2:Bool):(insMid R n y s g false b2).set n (.int .u8 y)=insMid R n y s g true b2:=by cases b2<;>rfl
theorem insMid2 (R:List Value) (n:Nat) (y s g:Int) (b1:Bool):((insMid R n y s g b1 false).set (16+n * 2) (.int .i64 s)).set (16+n * 2+1) (.int .u32 g)=insMid R n y s g b1 true:=by
 cases b1
 ·rfl
 ·show ((R.set n _).set _ _).set _ _=((R.set _ _).set _ _).set n _
  rw[List.set_comm _ _ (show n≠16+n * 2 by omega),List.set_comm _ _ (show n≠16+n * 2+1 by omega)]
theorem insMid_len (R:List Value) (n:Nat) (y s g:Int) (b1 b2:Bool):(insMid R n y s g b1 b2).length=R.length:=by cases b1<;>cases b2<;>simp[insMid]
theorem insMid_all (R:List Value) (n:Nat) (y s g:Int):insMid R n y s g true true=((R.set n (.int .u8 y)).set (16+n * 2) (.int .i64 s)).set (16+n * 2+1) (.int .u32 g):=(insMid2 R n y s g true).symm
variable {l:List Value} {b:Nat} {T:TypeId} {w:World}
theorem cell_list {fz:Nat × Nat} (h:w.heap[b]?=some (.cells l.toArray T fz)) (i:Nat) (hi:i<l.length):w.cell? ⟨b,i,none⟩=some l[i]:=by
 rw[cell_of h,List.getElem?_toArray,List.getElem?_eq_getElem hi]
theorem z0m {o o':Obj} (h:w.heap[b]?=some o):(w.alloc o').heap[b]?=some o:=(Below.heap_alloc _ _ _ (lt_of_block h)).trans h
theorem set_list {i:Nat} {v:Value} {fz:Nat × Nat} (h:w.heap[b]?=some (.cells l.toArray T fz)):(w.setCell ⟨b,i,none⟩ v).heap[b]?=some (.cells (l.set i v).toArray T fz):=by
 rw[heap_set h];simp
end Go.Burg
namespace Go.Proofs.YtgdmfledhhoedaaGreatDoor.F
set_option maxRecDepth 8000
open Go.ChangeShapes Go.WideShapes Go.ChangeAt Go.RowKit Go.Burg
set_option maxHeartbeats 4000000 in
theorem put_at {x n:Nat} {F:Fw} (y s g:Int) (w:World) (h:FwAt 244 w x F) (hn:n<=F.n) (h15:F.n<=15) :
 Calls Tryz.prog 192 #[.pointer (some ⟨x,0,none⟩),.int .i64 n,.int .u8 y,.agg #[.int .i64 s,.int .u32 g]] w fun e w'=>e=.returned (.tuple #[])/\FwAt 244 w' x (F.ins n y s g)/\Mod (·=x) w w':=by
 have hF:=h.same (w':=w.alloc (.cells #[.int .i64 s,.int .u32 g] 36 (0,0))) (Below.heap_alloc _ _ _ h.lt)
 have hN:=z0a w (.cells #[.int .i64 s,.int .u32 g] 36 (0,0))
 have hx:w.heap.size≠x:=by have:=h.lt;omega
 have hB:Mod (·=x) w (w.alloc (.cells #[.int .i64 s,.int .u32 g] 36 (0,0))):=(Mod.refl _ _).alloc _
 have hX:=lt_of_block hN
 have s1:=upB_slice x n (by omega)
 have s2:=midB_slice x n F.n hn h15
 have s3:=upR_slice x n (by omega)
 have s4:=midR_slice x n F.n hn h15
 have HN:=hid hn
 have H15:=hid h15
 have hwr:RowKit.wrap64 ((n:Int)+1)=(n:Int)+1:=IntWalk.wrap64_in _ (by omega)
 generalize hW:w.alloc (.cells #[.int .i64 s,.int .u32 g] 36 (0,0))=W at *
 generalize hu:w.heap.size=u at *
 have HW:=hid hW
 have HU:=hid hu
 have HF:=hid hF
 have HNB:=hid hN
 have HB:=hid hB
 clear h hW hu hF hN hB
 go_enter Tryz.func192,Tryz.ntmps192
 go_wp2_with fail
 rw[HW.out,HU.out]
 refine z0f 16 (Turn 15 (fun w1=>FwAt 244 w1 x F/\Mod (·=x) W w1) (fun w1=>FwAt 244 w1 x (F.upB n)/\Mod (·=x) W w1)) (by kernel_rfl) (by kernel_rfl) (by kernel_rfl) (Turn.start ⟨HF.out,(Mod.refl _ _).drew⟩) ?_
 dsimp only[List.take]
 iterate 15
  refine Seq.calm (a':=?_) (by decide) ?_ ?_ ?_
  rotate_left
  ·intro w1 hw1
   have n0:w1.cell? ⟨x,48,none⟩=some (.int .i64 F.n):=hw1.elim (fun h=>h.1.num.1) (fun h=>h.1.num.1)
   clear hw1
   go_wp2_with (fail)
   refine⟨?_,id,id⟩;exact rfl
  ·kernel_rfl
 refine Seq.turn (a':=?_) ?_ ?_ ?_
 rotate_left
 ·intro w1 hw1
  have hF1:=hw1.1
  have HF1:=hid hF1
  have HM1:=hid hw1.2
  clear hw1 hF1
  refine wpList_copy_run w1 rfl _ _ _ _ rfl _ _ rfl rfl (copyB_up (F:=F) _ w1 HF1.out HN.out H15.out) ?_
  go_wp2_with fail
  refine⟨?_,setRow_block HF1.out,HM1.out.trans (mod_setRow _ _ _) (fun _ _ h=>h)⟩
  exact rfl
 ·kernel_rfl
 iterate 0
  refine Seq.calm (a':=?_) (by decide) ?_ ?_ ?_
  rotate_left
  ·intro w1 hw1
   have n0:w1.cell? ⟨x,48,none⟩=some (.int .i64 F.n):=hw1.elim (fun h=>h.1.num.1) (fun h=>h.1.num.1)
   clear hw1
   go_wp2_with (fail)
   refine⟨?_,id,id⟩;exact rfl
  ·kernel_rfl
 refine SeqI.nil ?_
 intro D w1 hD hI
 replace hI:=hI.done (hD 15 (by omega))
 clear hD
 dsimp only[List.drop]
 obtain⟨hF1,hM1⟩:=hI
 have HF1:=hid hF1
 have HM1:=hid hM1
 clear hF1 hM1 HF
 rename World=>wa
 go_wp2_with fail
 refine z0f 16 (Turn 15 (fun w1=>FwAt 244 w1 x (F.upB n)/\Mod (·=x) wa w1) (fun w1=>FwAt 244 w1 x ((F.upB n).upR n)/\Mod (·=x) wa w1)) (by kernel_rfl) (by kernel_rfl) (by kernel_rfl) (Turn.start ⟨HF1.out,(Mod.refl _ _).drew⟩) ?_
 dsimp only[List.take]
 iterate 15
  refine Seq.calm (a':=?_) (by decide) ?_ ?_ ?_
  rotate_left
  ·intro w1 hw1
   have n0:w1.cell? ⟨x,48,none⟩=some (.int .i64 F.n):=hw1.elim (fun h=>h.1.num.1) (fun h=>h.1.num.1)
   clear hw1
   go_wp2_with (fail)
   refine⟨?_,id,id⟩;exact rfl
  ·kernel_rfl
 refine Seq.turn (a':=?_) ?_ ?_ ?_
 rotate_left
 ·intro w1 hw1
  have hF1:=hw1.1
  have HF1:=hid hF1
  have HM1:=hid hw1.2
  clear hw1 hF1
  refine wpList_copy_run w1 rfl _ _ _ _ rfl _ _ rfl rfl (copyR_up (F:=F.upB n) _ w1 HF1.out HN.out H15.out) ?_
  go_wp2_with fail
  refine⟨?_,setRow_block HF1.out,HM1.out.trans (mod_setRow _ _ _) (fun _ _ h=>h)⟩
  exact rfl
 ·kernel_rfl
 iterate 0
  refine Seq.calm (a':=?_) (by decide) ?_ ?_ ?_
  rotate_left
  ·intro w1 hw1
   have n0:w1.cell? ⟨x,48,none⟩=some (.int .i64 F.n):=hw1.elim (fun h=>h.1.num.1) (fun h=>h.1.num.1)
   clear hw1
   go_wp2_with (fail)
   refine⟨?_,id,id⟩;exact rfl
  ·kernel_rfl
 refine SeqI.nil ?_
 intro D w1 hD hI
 replace hI:=hI.done (hD 15 (by omega))
 clear hD
 dsimp only[List.drop]
 obtain⟨hF2,hM2⟩:=hI
 have HM2:=hid (HM1.out.trans hM2 (fun _ _ h=>h))
 have HF2:=hid hF2
 clear hF2 hM2 HF1 HM1
 rename World=>wb
 go_wp2_with fail
 have hrl:∀ b1 b2,(insMid (FwRow ((F.upB n).upR n)) n y s g b1 b2).length=50:=fun b1 b2=>by rw[insMid_len,z1y]
 have HNb:=hid ((HM2.out.block u hX hx).trans HNB.out)
 have HL:=hid hrl
 have hd2:decide (16<=n)=false:=by have:=HN.out;have:=H15.out;simp;omega
 clear hrl
 refine z0f 14 (z3a 9 13 (fun b1 b2 w1=>w1.heap[x]?=some (.cells (insMid (FwRow ((F.upB n).upR n)) n y s g b1 b2).toArray 244 (0,0))/\Mod (·=x) wb w1)) (by kernel_rfl) (by kernel_rfl) (by kernel_rfl) (z3a.start ⟨HF2.out,(Mod.refl _ _).drew⟩) ?_
 dsimp only[List.take]
 iterate 9
  refine Seq2.calm (a':=?_) (by decide) (by decide) ?_ ?_ ?_
  rotate_left
  ·intro b1 b2 w1 hw1
   have HW1:=hid hw1
   have hu:=(hw1.2.block u (lt_of_block HNb.out) hx).trans HNb.out;have u0:=cell_of hu 0;have u1:=cell_of hu 1;clear hu
   clear hw1
   go_wp2_with (fail)
   refine⟨?_,HW1.out⟩
   exact rfl
  ·kernel_rfl
 refine Seq2.fst (a':=?_) (by decide) ?_ ?_ ?_
 rotate_left
 ·intro b2 w1 hw1
  have HW1:=hid hw1
  obtain⟨v0,hv0⟩:∃ v,w1.cell? ⟨x,n,none⟩=some v:=⟨_,cell_list hw1.1 n (by rw[HL.out];have:=HN.out;have:=H15.out;omega)⟩
  have f0:=z0e hw1.1 n
  clear hw1
  go_wp2_with fail
  refine⟨?_,by have:=set_list (i:=n) (v:=.int .u8 y) HW1.out.1;rwa [insMid1] at this,HW1.out.2.setCell (p:=⟨x,n,none⟩) (.inl rfl) _⟩
  exact rfl
 ·kernel_rfl
 iterate 3
  refine Seq2.calm (a':=?_) (by decide) (by decide) ?_ ?_ ?_
  rotate_left
  ·intro b1 b2 w1 hw1
   have HW1:=hid hw1
   have hu:=(hw1.2.block u (lt_of_block HNb.out) hx).trans HNb.out;have u0:=cell_of hu 0;have u1:=cell_of hu 1;clear hu
   clear hw1
   go_wp2_with (fail)
   refine⟨?_,HW1.out⟩
   exact rfl
  ·kernel_rfl
 refine Seq2.snd (a':=?_) (by decide) ?_ ?_ ?_
 rotate_left
 ·intro b1 w1 hw1
  have HW1:=hid hw1
  obtain⟨v0,hv0⟩:∃ v,w1.cell? ⟨x,16+n * 2,none⟩=some v:=⟨_,cell_list hw1.1 (16+n * 2) (by rw[HL.out];have:=HN.out;have:=H15.out;omega)⟩
  obtain⟨v1,hv1⟩:∃ v,w1.cell? ⟨x,16+n * 2+1,none⟩=some v:=⟨_,cell_list hw1.1 (16+n * 2+1) (by rw[HL.out];have:=HN.out;have:=H15.out;omega)⟩
  have f0:=z0e hw1.1
  clear hw1
  go_wp2_with fail
  refine⟨?_,by have:=set_list (i:=16+n * 2+1) (v:=.int .u32 g) (set_list (i:=16+n * 2) (v:=.int .i64 s) HW1.out.1);rwa [insMid2] at this,(HW1.out.2.setCell (p:=⟨x,16+n * 2,none⟩) (.inl rfl) _).setCell (p:=⟨x,16+n * 2+1,none⟩) (.inl rfl) _⟩
  exact rfl
 ·kernel_rfl
 iterate 0
  refine Seq2.calm (a':=?_) (by decide) (by decide) ?_ ?_ ?_
  rotate_left
  ·intro b1 b2 w1 hw1
   have HW1:=hid hw1
   have hu:=(hw1.2.block u (lt_of_block HNb.out) hx).trans HNb.out;have u0:=cell_of hu 0;have u1:=cell_of hu 1;clear hu
   clear hw1
   go_wp2_with (fail)
   refine⟨?_,HW1.out⟩
   exact rfl
  ·kernel_rfl
 refine SeqI.nil ?_
 intro D w1 hD hI
 replace hI:=hI.done (hD 9 (by omega)) (hD 13 (by omega))
 clear hD
 dsimp only[List.drop]
 obtain⟨hR,hM⟩:=hI
 rw[insMid_all] at hR
 have hM2:=HM2.out.trans hM (fun _ _ h=>h)
 have n0:w1.cell? ⟨x,48,none⟩=some (.int .i64 F.n):=by
  have h0:=fwRow_get ((F.upB n).upR n) (k:=48) (by omega)
  have:=HN.out
  have:=H15.out
  rw[cell_of hR,List.getElem?_toArray,List.getElem?_set_ne (by omega),List.getElem?_set_ne (by omega),List.getElem?_set_ne (by omega),h0]
  rfl
 have f0:=z0e hR 48
 have HR:=hid hR
 have HM3:=hid hM2
 have hwf:RowKit.wrap64 ((F.n:Int)+1)=(F.n:Int)+1:=IntWalk.wrap64_in _ (by have:=H15.out;omega)
 clear hR hM2 hM
 go_wp2
 go_end0
 refine⟨rfl,?_,HB.out.trans (HM3.out.setCell (p:=⟨x,48,none⟩) (.inl rfl) _) (fun _ _ h=>h)⟩
 have:=set_list (i:=48) (v:=.int .i64 ((F.n:Int)+1)) HR.out
 rw[ins_row F y s g HN.out H15.out] at this
 exact this
end Go.Proofs.YtgdmfledhhoedaaGreatDoor.F
namespace Go.Burg
open Go Go.RowKit
end Go.Burg
namespace Go.Proofs.YtgdmfledhhoedaaGreatDoor.F
set_option maxRecDepth 8000
open Go.ChangeShapes Go.WideShapes Go.ChangeAt Go.RowKit Go.Burg
end Go.Proofs.YtgdmfledhhoedaaGreatDoor.F
namespace Go.Burg
open Go Go.RowKit
def Fw.kd (F:Fw) (i:Nat):Kd:=⟨F.b i,F.s i,F.g i⟩
def Fw.list (F:Fw):List Kd:=(List.range F.n).map F.kd
theorem Fw.z2e (F:Fw):F.list.length=F.n:=by simp[Fw.list]
theorem Fw.z2x (F:Fw) {i:Nat} (hi:i<F.n):F.list[i]?=some (F.kd i):=by simp[Fw.list,hi]
theorem Fw.list_ext {F:Fw} {l:List Kd} (hn:l.length=F.n) (h:∀ i,i<F.n->l[i]?=some (F.kd i)):l=F.list:=by
 refine List.ext_getElem? fun i=>?_
 by_cases hi:i<F.n
 ·rw[h i hi,F.z2x hi]
 ·rw[List.getElem?_eq_none (by omega),List.getElem?_eq_none (by rw[F.z2e];omega)]
theorem Fw.list_ins (F:Fw) {n:Nat} (y s g:Int) (hn:n<=F.n):F.list.take n++⟨y,s,g⟩ :: F.list.drop n=(F.ins n y s g).list:=by
 refine Fw.list_ext (by simp[Fw.z2e,Fw.ins];omega) fun i hi=>?_
 have hi':i<F.n+1:=hi
 have ht:(F.list.take n).length=n:=by simp[Fw.z2e];omega
 rcases Nat.lt_trichotomy i n with h|rfl|h
 ·rw[List.getElem?_append_left (by omega),List.getElem?_take,if_pos h,F.z2x (by omega)]
  have e1:¬ (i=n):=by omega
  have e2:¬ (n<i/\i<=F.n):=by omega
  simp only[Fw.kd,Fw.ins,Fw.upB,Fw.upR,if_neg e1,if_neg e2]
 ·rw[List.getElem?_append_right (by omega),ht,Nat.sub_self]
  simp[Fw.kd,Fw.ins]
 ·rw[List.getElem?_append_right (by omega),ht,show i - n=(i - n - 1)+1 by omega,List.getElem?_cons_succ,List.getElem?_drop,F.z2x (by omega)]
  have e1:¬ (i=n):=by omega
  have e2:n<i/\i<=F.n:=by omega
  have e3:n+(i - n - 1)=i - 1:=by omega
  simp only[Fw.kd,Fw.ins,Fw.upB,Fw.upR,if_neg e1,if_pos e2,e3]
def Fw.turn (F:Fw) (n:Nat) (s g:Int):Fw:={ F with s:=fun j=>if j=n then s else F.s j,g:=fun j=>if j=n then g else F.g j }
theorem Fw.list_turn (F:Fw) {n:Nat} (s g:Int):F.list.set n ⟨F.b n,s,g⟩=(F.turn n s g).list:=by
 refine Fw.list_ext (by simp[Fw.z2e,Fw.turn]) fun i hi=>?_
 have hi':i<F.n:=hi
 by_cases h:n=i
 ·subst h
  rw[List.getElem?_set_self (by rw[F.z2e];omega)]
  simp[Fw.kd,Fw.turn]
 ·rw[List.getElem?_set_ne h,F.z2x hi']
  have e:¬ (i=n):=fun e=>h e.symm
  simp only[Fw.kd,Fw.turn,if_neg e]
theorem turn_row (F:Fw) {n:Nat} (s g:Int) (hn:n<16):((FwRow F).set (16+n * 2) (.int .i64 s)).set (16+n * 2+1) (.int .u32 g)=FwRow (F.turn n s g):=by
 refine row_ext (by simp[z1y]) fun k hk=>?_
 have h0:=fwRow_get F hk
 by_cases h1:16+n * 2+1=k
 ·subst h1
  rw[List.getElem?_set_self (by simp[z1y];omega)]
  have e1:¬ (16+n * 2+1<16):=by omega
  have e2:16+n * 2+1<48:=by omega
  have e3:¬ ((16+n * 2+1) % 2=0):=by omega
  have e4:(16+n * 2+1 - 16) / 2=n:=by omega
  simp only[z2j,if_neg e1,if_pos e2,if_neg e3,e4,Fw.turn]
  simp
 rw[List.getElem?_set_ne h1]
 by_cases h2:16+n * 2=k
 ·subst h2
  rw[List.getElem?_set_self (by simp[z1y];omega)]
  have e1:¬ (16+n * 2<16):=by omega
  have e2:16+n * 2<48:=by omega
  have e3:((16+n * 2) % 2=0):=by omega
  have e4:(16+n * 2 - 16) / 2=n:=by omega
  simp only[z2j,if_neg e1,if_pos e2,if_pos e3,e4,Fw.turn]
  simp
 rw[List.getElem?_set_ne h2,h0]
 unfold z2j Fw.turn
 by_cases h4:k<16
 ·simp only[if_pos h4]
 ·by_cases h5:k<48
  ·have e:¬ ((k - 16) / 2=n):=by omega
   simp only[if_neg h4,if_pos h5,if_neg e]
  ·simp only[if_neg h4,if_neg h5]
theorem idxAt_list (F:Fw) (y:Int):IdxAt F F.n y (idx F.list y):=by
 obtain⟨h1,h2,h3,_,_⟩:=idx_spec F.list y
 rw[F.z2e] at h1
 refine⟨h1,fun j hj=>h2 j _ hj (F.z2x (by omega)),fun h=>h3 _ (F.z2x h)⟩
structure FewL (T:TypeId) (w:World) (x:Nat) (L:List Kd) (r:Nat):Prop where
 f:∃ F:Fw,FwAt T w x F/\F.list=L/\F.room=r
 rise:Rise L
 room:r=4\/r=16
 le:L.length<=r
theorem FewL.same {T:TypeId} {w w':World} {x r:Nat} {L:List Kd} (h:FewL T w x L r) (e:w'.heap[x]?=w.heap[x]?):FewL T w' x L r:=⟨by obtain⟨F,h1,h2⟩:=h.f;exact⟨F,h1.same e,h2⟩,h.rise,h.room,h.le⟩
theorem FewL.lt {T:TypeId} {w:World} {x r:Nat} {L:List Kd} (h:FewL T w x L r):x<w.heap.size:=by obtain⟨F,h1,_⟩:=h.f;exact h1.lt
end Go.Burg
namespace Go.Proofs.YtgdmfledhhoedaaGreatDoor.F
set_option maxRecDepth 8000
open Go.ChangeShapes Go.WideShapes Go.ChangeAt Go.RowKit Go.Burg
theorem fNew_L (r:Nat) (hr:r=4\/r=16) (w:World):Calls Tryz.prog 121 #[.int .i64 r] w fun e w'=>e=.returned (.tuple #[.pointer (some ⟨w.heap.size,0,none⟩),.int .i64 0])/\FewL 244 w' w.heap.size [] r/\Below w.heap.size w w' :=
 (fNew_at r hr w).mono fun _ _ h=>⟨h.1,⟨⟨_,h.2.1,rfl,rfl⟩,List.Pairwise.nil,hr,Nat.zero_le _⟩,h.2.2⟩
variable {x:Nat}
theorem fFind_L {r:Nat} {L:List Kd} (y:Int) (w:World) (h:FewL 244 w x L r) :
 Calls Tryz.prog 183 #[.pointer (some ⟨x,0,none⟩),.int .u8 y] w fun e w'=>e=.returned (.tuple #[.agg #[.int .i64 ((z0p L y).elim 0 Kd.s),.int .u32 ((z0p L y).elim 0 Kd.g)],.bool (z0p L y).isSome])/\Below w.heap.size w w':=by
 obtain⟨F,hF,rfl,hr⟩:=h.f
 have hl:=h.le
 rw[F.z2e] at hl
 have h16:F.n<=16:=by rcases h.room with e|e<;>omega
 have hr1:1<=F.room:=by rcases h.room with e|e<;>omega
 have hI:=idxAt_list F y
 rcases findK_iff h.rise y with ⟨k,h1,h2,h3⟩|⟨h1,h3⟩
 ·have hi:idx F.list y<F.n:=by have:=(List.getElem?_eq_some_iff.1 h1).1;rwa [F.z2e] at this
  rw[F.z2x hi] at h1
  cases h1
  rw[h3]
  exact fFind_yes w hF h16 hr1 hI hi h2
 ·rw[h3]
  exact fFind_no w hF h16 hr1 hI (fun hx=>h1 _ (F.z2x hx.1) hx.2)
theorem mod_drewN {S:Nat->Prop} {a w:World} {n:Nat} (h:Mod S a w):Mod S a (w.drewN n):=⟨h.os,h.tape,h.output,h.size,h.block⟩
set_option maxHeartbeats 4000000 in
theorem fPut_at {i:Nat} {F:Fw} {y s g:Int} (w:World) (h:FwAt 244 w x F) (hn:F.n<F.room) (h16:F.room<=16) (hi:IdxAt F F.n y i) (hno:¬ (i<F.n/\F.b i=y)) :
 Calls Tryz.prog 186 #[.pointer (some ⟨x,0,none⟩),.int .u8 y,.agg #[.int .i64 s,.int .u32 g]] w fun e w'=>e=.returned (.int .i64 0)/\FwAt 244 w' x (F.ins i y s g)/\Mod (·=x) w w':=by
 have hF:=h.same (w':=w.alloc (.cells #[.int .i64 s,.int .u32 g] 36 (0,0))) (Below.heap_alloc _ _ _ h.lt)
 have hN:=z0a w (.cells #[.int .i64 s,.int .u32 g] 36 (0,0))
 have hx:w.heap.size≠x:=by have:=h.lt;omega
 have hB:Mod (·=x) w (w.alloc (.cells #[.int .i64 s,.int .u32 g] 36 (0,0))):=(Mod.refl _ _).alloc _
 have hX:=lt_of_block hN
 have HT:=hid (z1i _ hF (by omega))
 have HA:=hid (fat_at (w.alloc (.cells #[.int .i64 s,.int .u32 g] 36 (0,0))) hF (by omega) hi false (by rw[Bool.and_eq_false_iff];by_cases hlt:i<F.n;exact .inr (by simp;exact fun e=>hno ⟨hlt,e⟩);exact .inl (by simpa using hlt)))
 have HP:=hid (fun (w1:World) (h1:FwAt 244 w1 x F)=>put_at y s g w1 h1 hi.1 (by omega))
 have hd:((F.n:Int) == (F.room:Int))=false:=by simp;omega
 generalize hW:w.alloc (.cells #[.int .i64 s,.int .u32 g] 36 (0,0))=W at *
 generalize hu:w.heap.size=u at *
 have HW:=hid hW
 have HU:=hid hu
 have HF:=hid hF
 have HNB:=hid hN
 have HB:=hid hB
 have HX:=hid hx
 clear h hW hu hF hN hB hn h16 hi hno hx
 go_enter Tryz.func186,Tryz.ntmps186
 go_wp2_with fail
 rw[HW.out,HU.out]
 go_wp2_with (first|(go_at_call 190;refine HT.out.mono ?_;rintro e w2 ⟨rfl,rfl⟩)|(go_at_call 191;refine HA.out.mono ?_;rintro e wa ⟨rfl,hb⟩))
 have HF1:=hid (HF.out.same (hb.block x HF.out.lt))
 have HN1:=hid ((hb.block u hX).trans HNB.out)
 have HB1:=hid (HB.out.trans (Mod.z0j hb) (fun _ _ h=>h))
 clear hb HF HNB HB HT HA
 have n0:=HF1.out.num.1
 have n1:=HF1.out.num.2
 go_wp2_with fail
 go_quiet (fail)
 go_wp2_with fail
 have HF2:Hid (FwAt 244 (wa.drewN nq) x F):=hid HF1.out
 have HN2:Hid ((wa.drewN nq).heap[u]?=some (.cells #[.int .i64 s,.int .u32 g] 36 (0,0))):=hid HN1.out
 have HB2:Hid (Mod (·=x) w (wa.drewN nq)):=hid (mod_drewN HB1.out)
 clear n0 n1 HF1 HN1 HB1
 generalize wa.drewN nq=wb at *
 refine z0f 7 (Turn 6 (fun w1=>FwAt 244 w1 x F/\Mod (·=x) wb w1) (fun w1=>FwAt 244 w1 x (F.ins i y s g)/\Mod (·=x) wb w1)) (by kernel_rfl) (by kernel_rfl) (by kernel_rfl) (Turn.start ⟨HF2.out,(Mod.refl _ _).drew⟩) ?_
 dsimp only[List.take]
 iterate 6
  refine Seq.calm (a':=?_) (by decide) ?_ ?_ ?_
  rotate_left
  ·intro w1 hw1
   have hM:=hw1.elim (fun h=>h.2) (fun h=>h.2)
   have hu:=(hM.block u (lt_of_block HN2.out) HX.out).trans HN2.out
   have u0:=cell_of hu 0
   have u1:=cell_of hu 1
   clear hM hu hw1
   go_wp2_with (fail)
   refine⟨?_,id,id⟩;exact rfl
  ·kernel_rfl
 refine Seq.turn (a':=?_) ?_ ?_ ?_
 rotate_left
 ·intro w1 hw1
  have HF1:=hid hw1.1
  have HM1:=hid hw1.2
  clear hw1
  go_wp2_with (go_at_call 192;refine (HP.out _ HF1.out).mono ?_;rintro e w2 ⟨rfl,hF2,hM2⟩)
  refine⟨?_,hF2,HM1.out.trans hM2 (fun _ _ h=>h)⟩
  exact rfl
 ·kernel_rfl
 iterate 0
  refine Seq.calm (a':=?_) (by decide) ?_ ?_ ?_
  rotate_left
  ·intro w1 hw1
   have hM:=hw1.elim (fun h=>h.2) (fun h=>h.2)
   have hu:=(hM.block u (lt_of_block HN2.out) HX.out).trans HN2.out
   have u0:=cell_of hu 0
   have u1:=cell_of hu 1
   clear hM hu hw1
   go_wp2_with (fail)
   refine⟨?_,id,id⟩;exact rfl
  ·kernel_rfl
 refine SeqI.nil ?_
 intro D w1 hD hI
 replace hI:=hI.done (hD 6 (by omega))
 clear hD
 dsimp only[List.drop]
 go_wp2
 go_ret
 exact⟨rfl,hI.1,HB2.out.trans hI.2 (fun _ _ h=>h)⟩
end Go.Proofs.YtgdmfledhhoedaaGreatDoor.F
namespace Go.Burg
open Go Go.RowKit
def MOwn (x gr gu:Nat) (i:Nat):Prop:=i=x\/i=gr\/i=gu
def Mw.mid (M:Mw) (p b v:Nat) (u:Bool) (s g:Int) (b1 b2 b3:Bool):Mw :=
 { at':=(cond b3 (M.setA b v) M).at',s:=(cond b2 (M.setR p s g) M).s,g:=(cond b2 (M.setR p s g) M).g,u:=(cond b1 (M.setU p u) M).u }
theorem Mw.mid1 (M:Mw) (p b v:Nat) (u:Bool) (s g:Int) (b2 b3:Bool):(M.mid p b v u s g false b2 b3).setU p u=M.mid p b v u s g true b2 b3:=by cases b2<;>cases b3<;>rfl
theorem Mw.mid2 (M:Mw) (p b v:Nat) (u:Bool) (s g:Int) (b1 b3:Bool):(M.mid p b v u s g b1 false b3).setR p s g=M.mid p b v u s g b1 true b3:=by cases b1<;>cases b3<;>rfl
theorem Mw.mid3 (M:Mw) (p b v:Nat) (u:Bool) (s g:Int) (b1 b2:Bool):(M.mid p b v u s g b1 b2 false).setA b v=M.mid p b v u s g b1 b2 true:=by cases b1<;>cases b2<;>rfl
def Mw.lay (M:Mw) (p b:Nat) (s g:Int):Mw:=M.mid p b (p+1) true s g true true true
end Go.Burg
namespace Go.Proofs.YtgdmfledhhoedaaGreatDoor.M
set_option maxRecDepth 8000
open Go.ChangeShapes Go.WideShapes Go.ChangeAt Go.RowKit Go.Burg
section
variable {w:World} {x gr gu r:Nat} {M:Mw}
set_option maxHeartbeats 4000000 in
theorem lay_at (b p:Nat) (s g:Int) (hb:b<256) (h:ManyAt 251 36 4 w x gr gu r M) (hp:FirstFree M r p) :
 Calls Tryz.prog 209 #[.pointer (some ⟨x,0,none⟩),.int .i64 b,.agg #[.int .i64 s,.int .u32 g]] w fun e w'=>e=.returned (.bool true)/\ManyAt 251 36 4 w' x gr gu r (M.lay p b s g)/\Mod (MOwn x gr gu) w w':=by
 have hA:=h.alloc (.cells #[.int .i64 s,.int .u32 g] 36 (0,0))
 have hN:=z0a w (.cells #[.int .i64 s,.int .u32 g] 36 (0,0))
 have hx:¬ MOwn x gr gu w.heap.size:=by have:=h.lt;rintro (e|e|e)<;>omega
 have hB:Mod (MOwn x gr gu) w (w.alloc (.cells #[.int .i64 s,.int .u32 g] 36 (0,0))):=(Mod.refl _ _).alloc _
 have HI:=hid (index_at p hA hp)
 have hr:=h.r2
 have hpr:=hp.1
 have c2:=h.head.2
 have hxl:=h.lt.1
 have HP:=hid hp
 have HBB:=hid hb
 have hd0:decide (r<=p)=false:=by simp;omega
 have hd1:decide (256<=b)=false:=by simp;omega
 have HA:=hid hA
 have HNB:=hid hN
 have HB:=hid hB
 have HX:=hid hx
 clear h hA hN hB hx hp
 go_enter Tryz.func209,Tryz.ntmps209
 go_wp2_with fail
 generalize hW:w.alloc (.cells #[.int .i64 s,.int .u32 g] 36 (0,0))=W at *
 generalize hu:w.heap.size=c at *
 have HW:=hid hW
 have HU:=hid hu
 clear hW hu
 refine HI.out.mono ?_
 rintro e w2 ⟨rfl,rfl⟩
 go_wp2_with fail
 clear c2 HI hxl
 have HN2:=HNB
 clear HNB
 refine z0f 24 (Turn3 17 19 23 (fun b1 b2 b3 w1=>ManyAt 251 36 4 w1 x gr gu r (M.mid p b (p+1) true s g b1 b2 b3)/\Mod (MOwn x gr gu) W w1)) (by kernel_rfl) (by kernel_rfl) (by kernel_rfl) (Turn3.start ⟨HA.out.same rfl rfl rfl,(Mod.refl _ _).drew⟩) ?_
 dsimp only[List.take]
 iterate 17
  refine Seq3.calm (a':=?_) (by decide) (by decide) (by decide) ?_ ?_ ?_
  rotate_left
  ·intro b1 b2 b3 w1 hw1
   have HW1:=hid hw1
   have hu:=(hw1.2.block c (lt_of_block HN2.out) HX.out).trans HN2.out
   have u0:=cell_of hu 0
   have u1:=cell_of hu 1
   have e1:=hw1.1.head.1
   have e2:=hw1.1.head.2
   clear hu
   clear hw1
   go_wp2_with (fail)
   refine⟨?_,HW1.out⟩
   exact rfl
  ·kernel_rfl
 refine Seq3.at1 (a':=?_) (by decide) (by decide) ?_ ?_ ?_
 rotate_left
 ·intro b2 b3 w1 hw1
  have HW1:=hid hw1
  obtain⟨k0,k1⟩:=hw1.1.used HP.out.1
  clear hw1
  go_wp2_with fail
  refine⟨?_,by have:=HW1.out.1.setU HP.out.1 true;rwa [Mw.mid1] at this,HW1.out.2.setCell (p:=⟨gu,p,none⟩) (.inl (.inr (.inr rfl))) _⟩
  exact rfl
 ·kernel_rfl
 iterate 1
  refine Seq3.calm (a':=?_) (by decide) (by decide) (by decide) ?_ ?_ ?_
  rotate_left
  ·intro b1 b2 b3 w1 hw1
   have HW1:=hid hw1
   have hu:=(hw1.2.block c (lt_of_block HN2.out) HX.out).trans HN2.out
   have u0:=cell_of hu 0
   have u1:=cell_of hu 1
   have e1:=hw1.1.head.1
   have e2:=hw1.1.head.2
   clear hu
   clear hw1
   go_wp2_with (fail)
   refine⟨?_,HW1.out⟩
   exact rfl
  ·kernel_rfl
 refine Seq3.at2 (a':=?_) (by decide) (by decide) ?_ ?_ ?_
 rotate_left
 ·intro b1 b3 w1 hw1
  have HW1:=hid hw1
  obtain⟨k0,k1,kf⟩:=hw1.1.ref HP.out.1
  clear hw1
  go_wp2_with fail
  refine⟨?_,by have:=HW1.out.1.setR HP.out.1 s g;rwa [Mw.mid2] at this,(HW1.out.2.setCell (p:=⟨gr,p * 2,none⟩) (.inl (.inr (.inl rfl))) _).setCell (p:=⟨gr,p * 2+1,none⟩) (.inl (.inr (.inl rfl))) _⟩
  exact rfl
 ·kernel_rfl
 iterate 3
  refine Seq3.calm (a':=?_) (by decide) (by decide) (by decide) ?_ ?_ ?_
  rotate_left
  ·intro b1 b2 b3 w1 hw1
   have HW1:=hid hw1
   have hu:=(hw1.2.block c (lt_of_block HN2.out) HX.out).trans HN2.out
   have u0:=cell_of hu 0
   have u1:=cell_of hu 1
   have e1:=hw1.1.head.1
   have e2:=hw1.1.head.2
   clear hu
   clear hw1
   go_wp2_with (fail)
   refine⟨?_,HW1.out⟩
   exact rfl
  ·kernel_rfl
 refine Seq3.at3 (a':=?_) (by decide) (by decide) ?_ ?_ ?_
 rotate_left
 ·intro b1 b2 w1 hw1
  have HW1:=hid hw1
  obtain⟨k0,k1⟩:=hw1.1.at1 HBB.out
  clear hw1
  go_wp2_with fail
  refine⟨?_,by have:=HW1.out.1.setA HBB.out (v:=p+1) HP.out.1;rwa [Mw.mid3] at this,HW1.out.2.setCell (p:=⟨x,b,none⟩) (.inl (.inl rfl)) _⟩
  exact rfl
 ·kernel_rfl
 iterate 0
  refine Seq3.calm (a':=?_) (by decide) (by decide) (by decide) ?_ ?_ ?_
  rotate_left
  ·intro b1 b2 b3 w1 hw1
   have HW1:=hid hw1
   have hu:=(hw1.2.block c (lt_of_block HN2.out) HX.out).trans HN2.out
   have u0:=cell_of hu 0
   have u1:=cell_of hu 1
   have e1:=hw1.1.head.1
   have e2:=hw1.1.head.2
   clear hu
   clear hw1
   go_wp2_with (fail)
   refine⟨?_,HW1.out⟩
   exact rfl
  ·kernel_rfl
 refine SeqI.nil ?_
 intro D w1 hD hI
 replace hI:=hI.done (hD 17 (by omega)) (hD 19 (by omega)) (hD 23 (by omega))
 clear hD
 dsimp only[List.drop]
 go_wp2
 go_ret
 exact⟨rfl,hI.1,HB.out.trans hI.2 (fun _ _ h=>h)⟩
end
end Go.Proofs.YtgdmfledhhoedaaGreatDoor.M
namespace Go.Burg
open Go
theorem z2b (a:Kd) (L:List Kd) (y:Int):z0p (a :: L) y=if a.b=y then some a else z0p L y:=by
 unfold z0p
 rw[List.find?_cons]
 by_cases h:a.b=y<;>simp[h]
theorem findK_append (A B:List Kd) (y:Int):z0p (A++B) y=(z0p A y).or (z0p B y):=by
 unfold z0p
 rw[List.find?_append]
variable {L:List Kd}
theorem findK_b {y:Int} {k:Kd} (h:z0p L y=some k):k.b=y/\k∈L:=by
 have h1:=List.find?_some h
 exact⟨by simpa using h1,List.mem_of_find?_eq_some h⟩
theorem rise_ext:∀ {L L':List Kd},Rise L->Rise L'->(∀ y,z0p L y=z0p L' y)->L=L'
 | [],[],_,_,_=>rfl
 | [],b :: L',_,_,h=>by have:=h b.b;rw[z2b,if_pos rfl] at this;cases this
 | a :: L,[],_,_,h=>by have:=h a.b;rw[z2b,if_pos rfl] at this;cases this
 | a :: L,b :: L',h1,h2,h=>by
  have ha:=List.pairwise_cons.1 h1
  have hb:=List.pairwise_cons.1 h2
  have hab:a=b:=by
   have e1:=h a.b
   have e2:=h b.b
   rw[z2b,if_pos rfl,z2b] at e1
   rw[z2b (a:=b),if_pos rfl,z2b] at e2
   by_cases hh:b.b=a.b
   ·rw[if_pos hh] at e1;exact Option.some.inj e1
   ·rw[if_neg hh] at e1
    rw[if_neg (fun e=>hh e.symm)] at e2
    have m1:=findK_b e1.symm
    have m2:=findK_b e2
    have:=hb.1 a m1.2
    have:=ha.1 b m2.2
    omega
  subst hab
  refine congrArg (a :: ·) (rise_ext ha.2 hb.2 fun y=>?_)
  have:=h y
  rw[z2b,z2b] at this
  by_cases hy:a.b=y
  ·have n1:∀ {L:List Kd},(∀ k∈L,a.b<k.b)->z0p L y=none:=fun {L} hl=>by
    unfold z0p
    rw[List.find?_eq_none]
    intro k hk
    have:=hl k hk
    simp
    omega
   rw[n1 ha.1,n1 hb.1]
  ·rwa [if_neg hy,if_neg hy] at this
theorem findK_ins {k:Kd} (y:Int) (hn:z0p L k.b=none):z0p (insK L k) y=if k.b=y then some k else z0p L y:=by
 have e:z0p L y=z0p (L.takeWhile (ltK k.b)++L.dropWhile (ltK k.b)) y:=by rw[List.takeWhile_append_dropWhile]
 unfold insK
 rw[findK_append,z2b]
 by_cases hy:k.b=y
 ·rw[if_pos hy,if_pos hy]
  have:z0p (L.takeWhile (ltK k.b)) y=none:=by
   subst hy
   unfold z0p at hn ⊢
   rw[List.find?_eq_none] at hn ⊢
   exact fun z hz=>hn z ((List.takeWhile_prefix _).subset hz)
  rw[this];rfl
 ·rw[if_neg hy,if_neg hy,e,findK_append]
theorem findK_turn (L:List Kd) (b s g y:Int):z0p (z1t L b s g) y=if b=y then (z0p L y).map (fun _=>⟨b,s,g⟩) else z0p L y:=by
 induction L with
 | nil=>simp[z1t,z0p]
 | cons a L ih =>
  have e:z1t (a :: L) b s g=(if a.b=b then ⟨b,s,g⟩ else a) :: z1t L b s g:=rfl
  rw[e,z2b,z2b,ih]
  by_cases h1:a.b=b
  ·rw[if_pos h1]
   by_cases h2:b=y
   ·have h3:a.b=y:=h1.trans h2
    simp[h2,h3]
   ·have h3:¬ a.b=y:=fun e=>h2 (h1.symm.trans e)
    simp[h2,h3]
  ·rw[if_neg h1]
   by_cases h2:b=y
   ·have h3:¬ a.b=y:=fun e=>h1 (e.trans h2.symm)
    simp[h2,h3]
   ·simp[h2]
theorem insK_mem {k z:Kd} (h:z∈insK L k):z=k\/z∈L:=by
 unfold insK at h
 rcases List.mem_append.1 h with h|h
 ·exact .inr ((List.takeWhile_prefix _).subset h)
 ·rcases List.mem_cons.1 h with h|h
  ·exact .inl h
  ·exact .inr ((List.dropWhile_suffix _).subset h)
theorem turnK_mem {b s g:Int} {z:Kd} (h:z∈z1t L b s g):∃ k∈L,z.b=k.b:=by
 obtain⟨k,hk,rfl⟩:=List.mem_map.1 h
 refine⟨k,hk,?_⟩
 by_cases e:k.b=b
 ·rw[if_pos e];exact e.symm
 ·rw[if_neg e]
def Mw.look (M:Mw) (b:Nat):Option Kd:=if M.at' b=0 then none else some ⟨b,M.s (M.at' b - 1),M.g (M.at' b - 1)⟩
def Mw.upto (M:Mw) (n:Nat):List Kd:=(List.range n).filterMap M.look
structure MLook (M:Mw) (L:List Kd):Prop where
 rise:Rise L
 rng:∀ k∈L,0<=k.b/\k.b<256
 look:∀ b:Nat,b<256->M.look b=z0p L b
structure MIs (M:Mw) (r:Nat) (L:List Kd):Prop where
 l:MLook M L
 inj:∀ b b',b<256->b'<256->M.at' b=M.at' b'->M.at' b≠0->b=b'
 top:∀ b,b<256->M.at' b<=L.length
 u:∀ p,p<r->M.u p=decide (p<L.length)
theorem Mw.upto_rise (M:Mw):∀ n,Rise (M.upto n)/\∀ k∈M.upto n,0<=k.b/\k.b<n:=by
 intro n
 induction n with
 | zero=>exact⟨List.Pairwise.nil,fun k hk=>by cases hk⟩
 | succ n ih =>
  obtain⟨h1,h2⟩:=ih
  have e:M.upto (n+1)=M.upto n++(M.look n).toList:=by
   unfold Mw.upto
   rw[List.range_succ,List.filterMap_append]
   cases h:M.look n<;>simp[h]
  rw[e]
  have hl:∀ k∈(M.look n).toList,k.b=n:=fun k hk=>by
   unfold Mw.look at hk
   split at hk
   ·simp at hk
   ·simp at hk;subst hk;rfl
  refine⟨List.pairwise_append.2 ⟨h1,?_,fun a ha b hb=>?_⟩,fun k hk=>?_⟩
  ·cases M.look n<;>simp
  ·have:=(h2 a ha).2;have:=hl b hb;omega
  ·rcases List.mem_append.1 hk with hk|hk
   ·have:=h2 k hk;omega
   ·have:=hl k hk;omega
theorem Mw.upto_find (M:Mw) (n:Nat) (y:Int):z0p (M.upto n) y=if 0<=y/\y<n then M.look y.toNat else none:=by
 induction n with
 | zero=>rw[if_neg (by omega)];rfl
 | succ n ih =>
  have e:M.upto (n+1)=M.upto n++(M.look n).toList:=by
   unfold Mw.upto
   rw[List.range_succ,List.filterMap_append]
   cases h:M.look n<;>simp[h]
  rw[e,findK_append,ih]
  have hl:z0p (M.look n).toList y=if y=n then M.look n else none:=by
   unfold Mw.look
   split
   ·simp[z0p]
   ·by_cases hy:y=n
    ·simp[z0p,hy]
    ·have:¬ ((n:Int)=y):=fun e=>hy e.symm
     simp[z0p,hy,this]
  rw[hl]
  by_cases h1:0<=y/\y<n
  ·rw[if_pos h1,if_neg (by omega),if_pos (by omega),Option.or_none]
  ·rw[if_neg h1,Option.none_or]
   by_cases h2:y=n
   ·subst h2
    rw[if_pos rfl,if_pos (by omega)]
    simp
   ·rw[if_neg h2,if_neg (by omega)]
variable {M:Mw}
theorem MLook.all (h:MLook M L):M.upto 256=L:=by
 refine rise_ext (M.upto_rise 256).1 h.rise fun y=>?_
 rw[M.upto_find]
 by_cases hy:0<=y/\y<((256:Nat):Int)
 ·rw[if_pos hy,h.look _ (by omega)]
  congr 1
  omega
 ·rw[if_neg hy]
  cases hf:z0p L y with
  | none=>rfl
  | some k =>
   have:=findK_b hf
   have:=h.rng k this.2
   omega
theorem MIs.zero (r:Nat):MIs ⟨fun _=>0,fun _=>0,fun _=>0,fun _=>false⟩ r [] :=
 ⟨⟨List.Pairwise.nil,(fun k hk=>by cases hk),fun b _=>rfl⟩,fun b b' _ _ _ h=>absurd rfl h,fun b _=>Nat.zero_le _,fun p _=>by simp⟩
variable {r:Nat}
theorem MIs.free (h:MIs M r L) (hl:L.length<r):FirstFree M r L.length :=
 ⟨hl,by rw[h.u _ hl];simp,fun j hj=>by rw[h.u j (by omega)];simpa using hj⟩
theorem Mw.at0 (h:MLook M L) {b:Nat} (hb:b<256):M.at' b=0 ↔ z0p L b=none:=by
 rw[<- h.look b hb]
 unfold Mw.look
 by_cases e:M.at' b=0<;>simp[e]
theorem Mw.atp (h:MLook M L) {b:Nat} (hb:b<256) {k:Kd} (hk:z0p L b=some k):∃ p,M.at' b=p+1/\M.s p=k.s/\M.g p=k.g:=by
 rw[<- h.look b hb] at hk
 unfold Mw.look at hk
 by_cases e:M.at' b=0
 ·rw[if_pos e] at hk;cases hk
 ·rw[if_neg e] at hk
  cases hk
  exact⟨M.at' b - 1,by omega,rfl,rfl⟩
theorem MIs.lay {M:Mw} {r:Nat} {L:List Kd} (h:MIs M r L) {b:Nat} (s g:Int) (hb:b<256) (hn:z0p L b=none):MIs (M.lay L.length b s g) r (insK L ⟨b,s,g⟩):=by
 have hl:=z2y L ⟨b,s,g⟩
 have eat:∀ j,(M.lay L.length b s g).at' j=if j=b then L.length+1 else M.at' j:=fun j=>rfl
 have es:∀ j,(M.lay L.length b s g).s j=if j=L.length then s else M.s j:=fun j=>rfl
 have eg:∀ j,(M.lay L.length b s g).g j=if j=L.length then g else M.g j:=fun j=>rfl
 have eu:∀ j,(M.lay L.length b s g).u j=if j=L.length then true else M.u j:=fun j=>rfl
 refine⟨⟨insK_rise h.l.rise hn,fun k hk=>?_,fun j hj=>?_⟩,fun i j hi hj e1 e2=>?_,fun j hj=>?_,fun p hp=>?_⟩
 ·rcases insK_mem hk with rfl|hk
  ·exact⟨by simp,by show (b:Int)<256;omega⟩
  ·exact h.l.rng k hk
 ·rw[findK_ins _ hn]
  unfold Mw.look
  rw[eat,es,eg]
  by_cases e:j=b
  ·subst e;simp
  ·have e':¬ ((b:Int)=(j:Int)):=by omega
   simp only[if_neg e]
   rw[if_neg e',<- h.l.look j hj]
   unfold Mw.look
   by_cases e0:M.at' j=0
   ·rw[if_pos e0,if_pos e0]
   ·have:=h.top j hj
    rw[if_neg e0,if_neg e0,if_neg (by omega),if_neg (by omega)]
 ·rw[eat] at e1 e2
  rw[eat] at e1
  by_cases ei:i=b
  ·by_cases ej:j=b
   ·omega
   ·rw[if_pos ei,if_neg ej] at e1
    have:=h.top j hj
    omega
  ·by_cases ej:j=b
   ·rw[if_neg ei,if_pos ej] at e1
    have:=h.top i hi
    omega
   ·rw[if_neg ei,if_neg ej] at e1
    rw[if_neg ei] at e2
    exact h.inj i j hi hj e1 e2
 ·rw[eat,hl]
  have:=h.top j hj
  split<;>omega
 ·rw[eu,hl]
  by_cases e:p=L.length
  ·simp[e]
  ·rw[if_neg e,h.u p hp]
   simp;omega
theorem MIs.turn (h:MIs M r L) {b p:Nat} (s g:Int) (hb:b<256) (hp:M.at' b=p+1):MIs (M.setR p s g) r (z1t L b s g):=by
 have hl:(z1t L b s g).length=L.length:=by simp[z1t]
 refine⟨⟨turnK_rise h.l.rise _ _ _,fun k hk=>?_,fun j hj=>?_⟩,h.inj,fun j hj=>by rw[hl];exact h.top j hj,fun q hq=>by rw[hl];exact h.u q hq⟩
 ·obtain⟨k',hk',e⟩:=turnK_mem hk
  rw[e];exact h.l.rng k' hk'
 ·rw[findK_turn,<- h.l.look j hj]
  unfold Mw.look Mw.setR
  by_cases e:j=b
  ·subst e
   simp only[hp]
   simp
  ·have e':¬ ((b:Int)=(j:Int)):=by omega
   rw[if_neg e']
   by_cases e0:M.at' j=0
   ·simp only[if_pos e0]
   ·have:¬ (M.at' j - 1=p):=fun e2=>e (h.inj j b hj hb (by omega) e0)
    simp only[if_neg e0,if_neg this]
open Go.RowKit
structure ManyL (T Tr Tb:TypeId) (w:World) (x gr gu r:Nat) (L:List Kd):Prop where
 m:∃ M,ManyAt T Tr Tb w x gr gu r M/\MIs M r L
structure ManyK (T Tr Tb:TypeId) (w:World) (x gr gu r:Nat) (L:List Kd):Prop where
 m:∃ M,ManyAt T Tr Tb w x gr gu r M/\MLook M L
end Go.Burg
namespace Go.Proofs.YtgdmfledhhoedaaGreatDoor.M
set_option maxRecDepth 8000
open Go.ChangeShapes Go.WideShapes Go.ChangeAt Go.RowKit Go.Burg
section
variable {w:World} {x gr gu r:Nat} {M:Mw} {L:List Kd}
set_option maxHeartbeats 4000000 in
theorem put_at (b p:Nat) (s g:Int) (hb:b<256) (h:ManyAt 251 36 4 w x gr gu r M) (hp:FirstFree M r p) (h0:M.at' b=0) :
 Calls Tryz.prog 200 #[.pointer (some ⟨x,0,none⟩),.int .u8 b,.agg #[.int .i64 s,.int .u32 g]] w fun e w'=>e=.returned (.int .i64 0)/\ManyAt 251 36 4 w' x gr gu r (M.lay p b s g)/\Mod (MOwn x gr gu) w w':=by
 have hA:=h.alloc (.cells #[.int .i64 s,.int .u32 g] 36 (0,0))
 have hN:=z0a w (.cells #[.int .i64 s,.int .u32 g] 36 (0,0))
 have hx:¬ MOwn x gr gu w.heap.size:=by have:=h.lt;rintro (e|e|e)<;>omega
 have hB:Mod (MOwn x gr gu) w (w.alloc (.cells #[.int .i64 s,.int .u32 g] 36 (0,0))):=(Mod.refl _ _).alloc _
 have HT:=hid (z1i hA)
 have HH:=hid (has_at b hb hA)
 rw[h0] at HH
 generalize hW:w.alloc (.cells #[.int .i64 s,.int .u32 g] 36 (0,0))=W at *
 generalize hu:w.heap.size=c at *
 have HW:=hid hW
 have HU:=hid hu
 have HA:=hid hA
 have HN2:=hid hN
 have HB:=hid hB
 have HX:=hid hx
 have HP:=hid hp
 have HBB:=hid hb
 clear h hW hu hA hN hB hx hp h0
 go_enter Tryz.func200,Tryz.ntmps200
 go_wp2_with fail
 rw[HW.out,HU.out]
 go_wp2_with (first|(go_at_call 208;refine HT.out.mono ?_;rintro e w2 ⟨rfl,rfl⟩)|(go_at_call 206;refine HH.out.mono ?_;rintro e w2 ⟨rfl,rfl⟩))
 clear HT HH
 refine z0f 9 (Turn 6 (fun w1=>ManyAt 251 36 4 w1 x gr gu r M/\Mod (MOwn x gr gu) W w1) (fun w1=>ManyAt 251 36 4 w1 x gr gu r (M.lay p b s g)/\Mod (MOwn x gr gu) W w1)) (by kernel_rfl) (by kernel_rfl) (by kernel_rfl) (Turn.start ⟨HA.out.same rfl rfl rfl,(Mod.refl _ _).drew⟩) ?_
 dsimp only[List.take]
 iterate 6
  refine Seq.calm (a':=?_) (by decide) ?_ ?_ ?_
  rotate_left
  ·intro w1 hw1
   have hM:=hw1.elim (fun h=>h.2) (fun h=>h.2)
   have hu:=(hM.block c (lt_of_block HN2.out) HX.out).trans HN2.out
   have u0:=cell_of hu 0
   have u1:=cell_of hu 1
   clear hM hu hw1
   go_wp2_with (fail)
   refine⟨?_,id,id⟩;exact rfl
  ·kernel_rfl
 refine Seq.turn (a':=?_) ?_ ?_ ?_
 rotate_left
 ·intro w1 hw1
  have HA1:=hid hw1.1
  have HM1:=hid hw1.2
  clear hw1
  go_wp2_with (go_at_call 209;refine (lay_at b p s g HBB.out HA1.out HP.out).mono ?_;rintro e w2 ⟨rfl,hA2,hM2⟩)
  refine⟨?_,hA2,HM1.out.trans hM2 (fun _ _ h=>h)⟩
  exact rfl
 ·kernel_rfl
 iterate 2
  refine Seq.calm (a':=?_) (by decide) ?_ ?_ ?_
  rotate_left
  ·intro w1 hw1
   have hM:=hw1.elim (fun h=>h.2) (fun h=>h.2)
   have hu:=(hM.block c (lt_of_block HN2.out) HX.out).trans HN2.out
   have u0:=cell_of hu 0
   have u1:=cell_of hu 1
   clear hM hu hw1
   go_wp2_with (fail)
   refine⟨?_,id,id⟩;exact rfl
  ·kernel_rfl
 refine SeqI.nil ?_
 intro D w1 hD hI
 replace hI:=hI.done (hD 6 (by omega))
 clear hD
 dsimp only[List.drop]
 go_wp2
 go_ret
 exact⟨rfl,hI.1,HB.out.trans hI.2 (fun _ _ h=>h)⟩
theorem put_L (k:Kd) (hl:L.length<r) (h:ManyL 251 36 4 w x gr gu r L) (hk:0<=k.b/\k.b<256) (hn:z0p L k.b=none) :
 Calls Tryz.prog 200 #[.pointer (some ⟨x,0,none⟩),.int .u8 k.b,.agg #[.int .i64 k.s,.int .u32 k.g]] w fun e w'=>e=.returned (.int .i64 0)/\ManyL 251 36 4 w' x gr gu r (insK L k)/\Mod (MOwn x gr gu) w w':=by
 obtain⟨M,hA,hI⟩:=h.m
 obtain⟨b,s,g⟩:=k
 obtain⟨b,rfl⟩:=Int.eq_ofNat_of_zero_le hk.1
 have hb:b<256:=by have:=hk.2;simp only at this;omega
 refine (put_at b L.length s g hb hA (hI.free hl) ((Mw.at0 hI.l hb).2 hn)).mono ?_
 rintro e w' ⟨rfl,hA',hM⟩
 exact⟨rfl,⟨_,hA',hI.lay s g hb hn⟩,hM⟩
set_option maxHeartbeats 4000000 in
theorem find_no (b:Nat) (hb:b<256) (h:ManyAt 251 36 4 w x gr gu r M) (h0:M.at' b=0) :
 Calls Tryz.prog 197 #[.pointer (some ⟨x,0,none⟩),.int .u8 b] w fun e w'=>e=.returned (.tuple #[.agg #[.int .i64 0,.int .u32 0],.bool false])/\Below w.heap.size w w':=by
 have hA:=h.alloc (.cells #[.int .i64 0,.int .u32 0] 36 (0,0))
 have HT:=hid (z1i hA)
 have HH:=hid (has_at b hb hA)
 rw[h0] at HH
 clear hA h0 h
 go_enter Tryz.func197,Tryz.ntmps197
 go_wp2_with (first|(go_at_call 208;refine HT.out.mono ?_;rintro e w2 ⟨rfl,rfl⟩)|(go_at_call 206;refine HH.out.mono ?_;rintro e w2 ⟨rfl,rfl⟩))
 refine bodyPost_ret (v:=.tuple #[.agg #[_,_],_]) (by simp[results,Tryz.results197,go_sem]) rfl ⟨rfl,?_⟩
 exact (Below.refl _ _).alloc (Nat.le_refl _) _
set_option maxHeartbeats 4000000 in
theorem find_yes (b p:Nat) (hb:b<256) (h:ManyAt 251 36 4 w x gr gu r M) (h0:M.at' b=p+1) :
 Calls Tryz.prog 197 #[.pointer (some ⟨x,0,none⟩),.int .u8 b] w fun e w'=>e=.returned (.tuple #[.agg #[.int .i64 (M.s p),.int .u32 (M.g p)],.bool true])/\Below w.heap.size w w':=by
 have hA:=h.alloc (.cells #[.int .i64 0,.int .u32 0] 36 (0,0))
 have HT:=hid (z1i hA)
 have HH:=hid (has_at b hb hA)
 have HR:=hid (ref_at b p hb hA h0)
 rw[h0] at HH
 have hd:decide (0<p+1)=true:=by simp
 rw[hd] at HH
 have hN:=z0a w (.cells #[.int .i64 0,.int .u32 0] 36 (0,0))
 have hB:Below w.heap.size w (w.alloc (.cells #[.int .i64 0,.int .u32 0] 36 (0,0))):=(Below.refl _ _).alloc (Nat.le_refl _) _
 have hpr:p<r:=by have:=h.at_le b hb;omega
 generalize hW:w.alloc (.cells #[.int .i64 0,.int .u32 0] 36 (0,0))=W at *
 generalize hu:w.heap.size=c at *
 have HW:=hid hW
 have HU:=hid hu
 have HA:=hid hA
 have HN2:=hid hN
 have HB:=hid hB
 clear h hW hu hA hN hB h0 hd
 go_enter Tryz.func197,Tryz.ntmps197
 go_wp2_with fail
 rw[HW.out,HU.out]
 go_wp2_with (first|(go_at_call 208;refine HT.out.mono ?_;rintro e w2 ⟨rfl,rfl⟩)|(go_at_call 206;refine HH.out.mono ?_;rintro e w2 ⟨rfl,rfl⟩)|(go_at_call 207;refine HR.out.mono ?_;rintro e w2 ⟨rfl,hb2⟩;obtain⟨k0,k1,_⟩:=(HA.out.keep hb2).ref hpr;have hk:=(hb2.block c (lt_of_block HN2.out)).trans HN2.out;have n0:=cell_of hk 0;have n1:=cell_of hk 1;have nf:=z0e hk;have HB2:=hid (HB.out.trans (hb2.mono (by rw[<- HU.out];exact HB.out.size)));clear hk hb2))
 refine bodyPost_ret (v:=.tuple #[.agg #[_,_],_]) (by simp[results,Tryz.results197,go_sem,n0,n1]) rfl ⟨rfl,?_⟩
 exact (HB2.out.setCell (Nat.le_refl _) _).setCell (Nat.le_refl _) _
theorem find_L (y:Int) (hy:0<=y/\y<256) (h:ManyL 251 36 4 w x gr gu r L) :
 Calls Tryz.prog 197 #[.pointer (some ⟨x,0,none⟩),.int .u8 y] w fun e w'=>e=.returned (.tuple #[.agg #[.int .i64 ((z0p L y).elim 0 Kd.s),.int .u32 ((z0p L y).elim 0 Kd.g)],.bool (z0p L y).isSome])/\Below w.heap.size w w':=by
 obtain⟨M,hA,hI⟩:=h.m
 obtain⟨b,rfl⟩:=Int.eq_ofNat_of_zero_le hy.1
 have hb:b<256:=by omega
 cases hf:z0p L (b:Int) with
 | none=>exact find_no b hb hA ((Mw.at0 hI.l hb).2 hf)
 | some k =>
  obtain⟨p,h1,h2,h3⟩:=Mw.atp hI.l hb hf
  have:=find_yes b p hb hA h1
  rw[h2,h3] at this
  exact this
end
section
variable {w:World} {x gr gu r:Nat} {M:Mw} {L:List Kd}
theorem ref_or (b p:Nat) (s g:Int) (hb:b<256) (hp:M.at' b=p+1) {A:World} {w1:World} (hw:(ManyAt 251 36 4 w1 x gr gu r M/\Mod (MOwn x gr gu) A w1)\/(ManyAt 251 36 4 w1 x gr gu r (M.setR p s g)/\Mod (MOwn x gr gu) A w1)) :
 Calls Tryz.prog 207 #[.pointer (some ⟨x,0,none⟩),.int .i64 b] w1 fun e w'=>e=.returned (.pointer (some ⟨gr,p * 2,none⟩))/\Below w1.heap.size w1 w':=by
 rcases hw with h|h
 ·exact ref_at b p hb h.1 hp
 ·exact ref_at (M:=M.setR p s g) b p hb h.1 hp
set_option maxHeartbeats 4000000 in
theorem turn_at (b p:Nat) (s g:Int) (hb:b<256) (h:ManyAt 251 36 4 w x gr gu r M) (h0:M.at' b=p+1) :
 Calls Tryz.prog 202 #[.pointer (some ⟨x,0,none⟩),.int .u8 b,.agg #[.int .i64 s,.int .u32 g]] w fun e w'=>e=.returned (.int .i64 0)/\ManyAt 251 36 4 w' x gr gu r (M.setR p s g)/\Mod (MOwn x gr gu) w w':=by
 have hA:=h.alloc (.cells #[.int .i64 s,.int .u32 g] 36 (0,0))
 have hN:=z0a w (.cells #[.int .i64 s,.int .u32 g] 36 (0,0))
 have hx:¬ MOwn x gr gu w.heap.size:=by have:=h.lt;rintro (e|e|e)<;>omega
 have hB:Mod (MOwn x gr gu) w (w.alloc (.cells #[.int .i64 s,.int .u32 g] 36 (0,0))):=(Mod.refl _ _).alloc _
 have HT:=hid (z1i hA)
 have HH:=hid (has_at b hb hA)
 rw[h0] at HH
 have hd:decide (0<p+1)=true:=by simp
 rw[hd] at HH
 have hpr:p<r:=by have:=h.at_le b hb;omega
 generalize hW:w.alloc (.cells #[.int .i64 s,.int .u32 g] 36 (0,0))=W at *
 generalize hu:w.heap.size=c at *
 have HW:=hid hW
 have HU:=hid hu
 have HA:=hid hA
 have HN2:=hid hN
 have HB:=hid hB
 have HX:=hid hx
 have HP:=hid h0
 have HBB:=hid hb
 clear h hW hu hA hN hB hx h0 hd
 go_enter Tryz.func202,Tryz.ntmps202
 go_wp2_with fail
 rw[HW.out,HU.out]
 go_wp2_with (first|(go_at_call 208;refine HT.out.mono ?_;rintro e w2 ⟨rfl,rfl⟩)|(go_at_call 206;refine HH.out.mono ?_;rintro e w2 ⟨rfl,rfl⟩))
 clear HT HH
 refine z0f 9 (Turn 8 (fun w1=>ManyAt 251 36 4 w1 x gr gu r M/\Mod (MOwn x gr gu) W w1) (fun w1=>ManyAt 251 36 4 w1 x gr gu r (M.setR p s g)/\Mod (MOwn x gr gu) W w1)) (by kernel_rfl) (by kernel_rfl) (by kernel_rfl) (Turn.start ⟨HA.out.same rfl rfl rfl,(Mod.refl _ _).drew⟩) ?_
 dsimp only[List.take]
 iterate 8
  refine Seq.calm (a':=?_) (by decide) ?_ ?_ ?_
  rotate_left
  ·intro w1 hw1
   have hM:=hw1.elim (fun h=>h.2) (fun h=>h.2)
   have hu:=(hM.block c (lt_of_block HN2.out) HX.out).trans HN2.out
   have u0:=cell_of hu 0
   have u1:=cell_of hu 1
   have HW1:=hid hw1
   clear hM hu hw1
   go_wp2_with (go_at_call 207;refine (ref_or b p s g HBB.out HP.out HW1.out).mono ?_;rintro e w' ⟨rfl,hb⟩)
   first|(refine⟨?_,id,id⟩;exact rfl)|(refine⟨?_,fun h=>⟨h.1.keep hb,h.2.trans (Mod.z0j hb) (fun _ _ h=>h)⟩,fun h=>⟨h.1.keep hb,h.2.trans (Mod.z0j hb) (fun _ _ h=>h)⟩⟩;exact rfl)
  ·kernel_rfl
 refine Seq.turn (a':=?_) ?_ ?_ ?_
 rotate_left
 ·intro w1 hw1
  have HA1:=hid hw1.1
  have HM1:=hid hw1.2
  obtain⟨k0,k1,kf⟩:=hw1.1.ref hpr
  clear hw1
  go_wp2_with fail
  refine⟨?_,HA1.out.setR hpr s g,(HM1.out.setCell (p:=⟨gr,p * 2,none⟩) (.inl (.inr (.inl rfl))) _).setCell (p:=⟨gr,p * 2+1,none⟩) (.inl (.inr (.inl rfl))) _⟩
  exact rfl
 ·kernel_rfl
 iterate 0
  refine Seq.calm (a':=?_) (by decide) ?_ ?_ ?_
  rotate_left
  ·intro w1 hw1
   have hM:=hw1.elim (fun h=>h.2) (fun h=>h.2)
   have hu:=(hM.block c (lt_of_block HN2.out) HX.out).trans HN2.out
   have u0:=cell_of hu 0
   have u1:=cell_of hu 1
   have HW1:=hid hw1
   clear hM hu hw1
   go_wp2_with (go_at_call 207;refine (ref_or b p s g HBB.out HP.out HW1.out).mono ?_;rintro e w' ⟨rfl,hb⟩)
   first|(refine⟨?_,id,id⟩;exact rfl)|(refine⟨?_,fun h=>⟨h.1.keep hb,h.2.trans (Mod.z0j hb) (fun _ _ h=>h)⟩,fun h=>⟨h.1.keep hb,h.2.trans (Mod.z0j hb) (fun _ _ h=>h)⟩⟩;exact rfl)
  ·kernel_rfl
 refine SeqI.nil ?_
 intro D w1 hD hI
 replace hI:=hI.done (hD 8 (by omega))
 clear hD
 dsimp only[List.drop]
 go_wp2
 go_ret
 exact⟨rfl,hI.1,HB.out.trans hI.2 (fun _ _ h=>h)⟩
theorem turn_L (y s g:Int) (k:Kd) (h:ManyL 251 36 4 w x gr gu r L) (hn:z0p L y=some k) :
 Calls Tryz.prog 202 #[.pointer (some ⟨x,0,none⟩),.int .u8 y,.agg #[.int .i64 s,.int .u32 g]] w fun e w'=>e=.returned (.int .i64 0)/\ManyL 251 36 4 w' x gr gu r (z1t L y s g)/\Mod (MOwn x gr gu) w w':=by
 obtain⟨M,hA,hI⟩:=h.m
 have hm:=findK_b hn
 have hr:=hI.l.rng k hm.2
 rw[hm.1] at hr
 obtain⟨b,rfl⟩:=Int.eq_ofNat_of_zero_le hr.1
 have hb:b<256:=by omega
 obtain⟨p,h1,h2,h3⟩:=Mw.atp hI.l hb hn
 refine (turn_at b p s g hb hA h1).mono ?_
 rintro e w' ⟨rfl,hA',hM⟩
 exact⟨rfl,⟨_,hA',hI.turn s g hb h1⟩,hM⟩
end
set_option maxRecDepth 20000
theorem new_cells (a b:Value):Array.foldl (fun cs (x:Value × Nat)=>cs.setIfInBounds x.snd x.fst) Tryz.zeroCells251 ((Tryz.zeroCells249.setIfInBounds 256 a).setIfInBounds 257 b).zipIdx 0 258=(List.replicate 256 (Value.int .u16 0)++[a,b]).toArray:=by kernel_rfl
end Go.Proofs.YtgdmfledhhoedaaGreatDoor.M
