/- Part 11 of 27. -/
import Derived.Test.YtgdmfledhhoedaaGreatDoorD04
import Derived.Test.YtgdmfledhhoedaaGreatDoorD10
import Derived.Deep.QuietTactic
import Derived.RecoverIn
import Derived.Maps.OwnIn
import Derived.Laws.IdiomStrings
import Derived.ScopeJumps
import Derived.WalkMore
import Derived.Test.YtgdmfledhhoedaaGreatDoorD09
import Derived.Test.YtgdmfledhhoedaaGreatDoorD01
import Derived.BigQuiet
namespace Go.Burg
open Go Go.RowKit
def AbR {β:Type} (R:Nat) (J:β->World->Prop):Prop:=∀ s A B,J s A->Mod (·=R) A B->J s B
def SeqTurn {α:Type} (R:Nat) (fin:Obj) (Mine:World->Nat->Prop) (P:Program) (g:Nat) (lb:Array Value) (encs:α->Array Value) (n₀:Nat) (S Sp:List α->Prop) (N:Nat) (w:World):Prop :=
 ∀ (l:Nat) (J Jx:List α->World->Prop) (W:World),Below w.heap.size w W->(∀ i,Mine W i->i<W.heap.size)->OwnFrom W.heap.size J->OwnFrom W.heap.size Jx->AbR R J->AbR R Jx ->
  (∀ pre x W1 m,J pre W1->pre.length<N->YieldAt Fence.wide m P l (encs x) W1 fun e W'=>(e=.returned (.bool true)/\J (pre++[x]) W'/\KpM n₀ Mine W1 W'/\KeepsFrom W.heap.size W1 W'/\W'.heap[R]?=W1.heap[R]?)\/(e=.returned (.bool false)/\Jx (pre++[x]) W'/\KeepsFrom W.heap.size W1 W')) ->
  J [] W->Calls P g (#[.func (.yield l) #[] #[]]++lb) W fun e W'=>(∃ v,e=.returned v)/\((∃ xs,S xs/\J xs W'/\W'.heap[R]?=some fin)\/∃ pre,Sp pre/\Jx pre W')
theorem Book.modR {d R:Nat} {r:Loop} {W W':World} (h:Book d r W) (hR:R<d) (hm:Mod (·=R) W W'):Book d r W' :=
 ⟨(hm.block d (lt_of_block h.df) (by show ¬ d=R;omega)).trans h.df,(hm.block (d+1) (lt_of_block h.lp) (by show ¬ d+1=R;omega)).trans h.lp⟩
def RoundEndR {α:Type} (R d n₀:Nat) (Mine:World->Nat->Prop) (I Ix:List α->World->Prop) (xs:List α) (W:World):Exit->Act->World->Prop
 | .normal,_,W'=>KeepsFrom d W W'/\KpM n₀ Mine W W'/\I xs W'/\W'.heap[R]?=W.heap[R]?
 | .ret,_,W'=>KeepsFrom d W W'/\Ix xs W'
 | _,_,_=>False
section
variable {α:Type} {P:Program} {g:Operand} {ps:Array Tmp} {assign body:Code} {Q:Exit->Act->World->Prop} {a:Act} {w:World} {n:Nat}
theorem range_turn (R:Nat) (fin:Obj) (h1:1<=n) {gf:Nat} {lb:Array Value} (hg:a.eval g=.func (.func gf) #[] lb) (eg:∀ args w,(callFunc gf args).run P w=.ok (.enter gf args) w)
 {encs:α->Array Value} {n₀:Nat} {S Sp:List α->Prop} {N:Nat} {w0:World} (Mine:World->Nat->Prop) (hMine:MineOk n₀ Mine) (hseq:SeqTurn R fin Mine P gf lb encs n₀ S Sp N w0) (hR:R<w.heap.size) (hn0:n₀<=w.heap.size) (hml:∀ i,Mine w i->i<w.heap.size) (hb0:Below w0.heap.size w0 w) (hps:∀ x,(encs x).size=ps.size)
 (I Ix:List α->World->Prop) (hI:OwnFrom w.heap.size I) (hIx:OwnFrom w.heap.size Ix) (hIR:AbR R I) (hIxR:AbR R Ix) (h0:I [] w) (Ax:α->Act->World->Prop) (hAx:∀ x a',OwnFrom w.heap.size (fun (_:Unit) W=>Ax x a' W))
 (hassign:∀ (l:Nat) (pre:List α) (x:α) (W:World) (K:Act->World->Prop),I pre W->(∀ a' W',KeepsFrom w.heap.size W W'->KpM n₀ Mine W W'->I pre W'->W'.heap[R]?=W.heap[R]?->Ax x a' W'->K a' W') ->
  assign.wpIn (Fence.wide.inRound l) (n - 1 - 1) P (Exit.then K (fun _ _ _=>False)) { tmps:=(ps.zip (encs x)).foldl (fun t (p,v)=>t.setIfInBounds p v) a.tmps,defers:=[] } W)
 (hbody:∀ (l:Nat) (pre:List α) (x:α) (a':Act) (W:World),w.heap.size<=l->(∃ r,W.heap[l]?=some (.loop r))->I pre W->Ax x a' W->pre.length<N->body.wpIn (Fence.wide.inRound l) (n - 1 - 1) P (RoundEndR R w.heap.size n₀ Mine I Ix (pre++[x]) W) a' W)
 (hdone:∀ (D:Nat) (xs:List α) (W:World),w.heap.size<=D->S xs->I xs W->W.heap[R]?=some fin->W.heap[D]?=some (.deferred (some []))->Q .normal { a with defers:={ target:=.collected D,args:=#[] } :: a.defers } W)
 (hstop:∀ (D:Nat) (pre:List α) (W:World),w.heap.size<=D->Sp pre->Ix pre W->W.heap[D]?=some (.deferred (some []))->Code.ret.wpIn Fence.wide n P Q { a with defers:={ target:=.collected D,args:=#[] } :: a.defers } W) :
 (Code.rangeFunc g ps assign body).wpIn Fence.wide n P Q a w:=by
 refine wpIn_rangeFunc fun fn hfn=>?_
 let rec0:Loop:={ state:=.ready,pending:=none,fn:=fn,tmps:=a.tmps,params:=ps,assign:=assign,body:=body,defers:=w.heap.size }
 let W1:World:=(w.alloc (.deferred (some []))).alloc (.loop rec0)
 have hbook:Book w.heap.size rec0 W1:=by
  refine⟨(Below.heap_alloc _ _ _ (by simp)).trans (World.alloc_heap_new w _),?_⟩
  have:=World.alloc_heap_new (w.alloc (.deferred (some []))) (.loop rec0)
  rwa [World.size_alloc] at this
 have hs1:W1.heap.size=w.heap.size+2:=by simp[W1]
 have hw1:Below w.heap.size w W1:=((Below.refl _ w).alloc (Nat.le_refl _) _).alloc (by simp) _
 refine⟨w.heap.size+1,[{ target:=.collected w.heap.size,args:=#[] }],W1,{ target:=.fn (.func gf) lb,args:=#[.func (.yield (w.heap.size+1)) #[] #[]] },W1,gf,#[.func (.yield (w.heap.size+1)) #[] #[]]++lb,W1,
  run_enterLoop_outer _ _ _ _ _,by simp only[resolve,hg];simp[go_sem],fun f' _=>trivial,by simp[invoke,go_sem,eg],fun _=>h1,?_⟩
 have hbW:Below w0.heap.size w0 W1:=hb0.trans ((((Below.refl _ w).alloc (Nat.le_refl _) _).alloc (by simp) _).mono hb0.size)
 have up:∀ {row:Option Nat} {A:World},(∀ r,row=some r->W1.heap.size<=r/\∃ o:Obj,A.heap[r]?=some o/\o.isCells=false)->∀ r,row=some r->w.heap.size<=r/\∃ o:Obj,A.heap[r]?=some o/\o.isCells=false:=fun h r e=>⟨by have:=(h r e).1;omega,(h r e).2⟩
 refine callsIn_wide.2 ((hseq (w.heap.size+1) (fun pre W=>I pre W/\Book w.heap.size rec0 W) (fun pre W=>Ix pre W/\Book w.heap.size { rec0 with state:=.done,pending:=some .ret } W) W1 hbW (fun i hm=>by have:=hml i (hMine.grow hn0 (z0w hw1) (fun r e=>by cases e) hm);omega)
  (fun s A B row hs hg hr=>⟨hI s A B row hs.1 hg (up hr),hs.2.grown (by omega) hg (fun r e=>(hr r e).1)⟩)
  (fun s A B row hs hg hr=>⟨hIx s A B row hs.1 hg (up hr),hs.2.grown (by omega) hg (fun r e=>(hr r e).1)⟩)
  (fun s A B hs hm=>⟨hIR s A B hs.1 hm,hs.2.modR hR hm⟩) (fun s A B hs hm=>⟨hIxR s A B hs.1 hm,hs.2.modR hR hm⟩) ?_ ⟨hI.alloc _ (hI.alloc _ h0),hbook⟩).mono ?_)
 ·
  -- a round
  rintro pre x W m ⟨hi,hk⟩ hlen
  refine⟨fn,_,assign,body,run_yield hk.lp (hps x),?_⟩
  have hR:RoundIn Fence.wide (n - 1 - 1) P (w.heap.size+1) fn ((ps.zip (encs x)).foldl (fun t (p,v)=>t.setIfInBounds p v) a.tmps) assign body W (fun e W'=>(e=.returned (.bool true)/\(I (pre++[x]) W'/\Book w.heap.size rec0 W')/\KpM n₀ Mine W W'/\KeepsFrom W1.heap.size W W'/\W'.heap[R]?=W.heap[R]?)\/(e=.returned (.bool false)/\(Ix (pre++[x]) W'/\Book w.heap.size { rec0 with state:=.done,pending:=some .ret } W')/\KeepsFrom W1.heap.size W W')):=by
   refine roundIn_of_wpIn hfn (hassign _ pre x W _ hi fun a' Wa hka hpa hia hra hax=>?_)
   have hka2:=hk.keeps hka
   refine⟨_,run_beginRound hka2.lp rfl,?_⟩
   have hput:∀ {A:World} {r:Loop} (r':Loop),Book w.heap.size r A->KpM n₀ Mine A (A.putObj (w.heap.size+1) (.loop r')):=fun r' hA=>KpM.put hMine _ _ _ _ (by omega) hA.lp rfl
   have hob:∀ {J:List α->World->Prop} {s:List α} {A:World} {r:Loop} (r':Loop),OwnFrom w.heap.size J->J s A->Book w.heap.size r A->J s (A.putObj (w.heap.size+1) (.loop r')):=fun r' hJ hs hA=>hJ.putObj _ hs (by omega) hA.lp rfl
   have hkq:∀ {A C:World},KeepsFrom w.heap.size A C->KeepsFrom W1.heap.size A C:=fun h=>z0o h (by omega)
   have hbusy:=hka2.turn { rec0 with state:=.busy }
   refine wpIn_mono (hbody _ pre x a' _ (by omega) ⟨_,hbusy.lp⟩ (hob _ hI hia hka2) ((hAx x a').putObj (s:=()) _ hax (by omega) hka2.lp rfl) hlen) ?_
   intro e a3 W3 hp
   cases e with
   | normal =>
    obtain⟨hkf,hkp,hi3,hr3⟩:=hp
    have hb3:=hbusy.keeps hkf
    exact⟨_,_,run_endRound none hb3.lp,.inl ⟨rfl,⟨hob _ hI hi3 hb3,hb3.turn rec0⟩,(hpa.trans (hput _ hka2)).trans (hkp.trans (hput _ hb3)),(hkq hka).trans ((z1f _ _ (by omega)).trans ((hkq hkf).trans (z1f _ _ (by omega)))),(World.putObj_heap_other (by omega)).trans (hr3.trans ((World.putObj_heap_other (by omega)).trans hra))⟩⟩
   | ret =>
    obtain⟨hkf,hi3⟩:=hp
    have hb3:=hbusy.keeps hkf
    exact⟨_,_,run_endRound (some .ret) hb3.lp,.inr ⟨rfl,⟨hob _ hIx hi3 hb3,hb3.turn _⟩,(hkq hka).trans ((z1f _ _ (by omega)).trans ((hkq hkf).trans (z1f _ _ (by omega))))⟩⟩
   | exit id=>exact hp.elim
   | goto t=>exact hp.elim
   | panic ch=>exact hp.elim
   | outgrown=>exact hp.elim
  exact⟨hR.1,fun c cs _=>hR.2 c cs (fun d h=>by cases h)⟩
 ·
  -- behind the iterator
  rintro e W2 ⟨⟨v,rfl⟩,(⟨xs,hS,⟨hi,hk⟩,hf⟩|⟨pre,hSp,⟨hi,hk⟩⟩)⟩
  ·have ht:=hk.turn { rec0 with state:=.exhausted }
   exact⟨none,_,run_endLoop hk.lp (by simp[rec0]),hdone _ xs _ (Nat.le_refl _) hS (hI.putObj _ hi (by omega) hk.lp rfl) ((World.putObj_heap_other (by omega)).trans hf) ht.df⟩
  ·have ht:=hk.turn { rec0 with state:=.exhausted,pending:=some .ret }
   exact⟨some .ret,_,run_endLoop hk.lp (by simp),hstop _ pre _ (Nat.le_refl _) hSp (hIx.putObj _ hi (by omega) hk.lp rfl) ht.df⟩
end
end Go.Burg
namespace Go.Proofs.YtgdmfledhhoedaaGreatDoor.D
set_option maxRecDepth 8000
open Go.ChangeShapes Go.WideShapes Go.ChangeAt Go.RowKit Go.Burg
section
variable {c:ByteArray} {p R:Nat} {x:UInt8}
theorem next_at (w:World) (h:w.heap[R]?=some (.cells #[.string c,.int .i64 p] 224 (0,0))) (hx:(byt c)[p]?=some x) (hc:c.size<=100000):Calls Tryz.prog 125 #[.pointer (some ⟨R,0,none⟩)] w fun e w'=>e=.returned (.int .u8 x.toNat)/\w'.heap[R]?=some (.cells #[.string c,.int .i64 (p+1:Nat)] 224 (0,0))/\Mod (·=R) w w':=by
 have hlt:p<c.size:=by
  have:=(List.getElem?_eq_some_iff.1 hx).1
  rwa [z1b] at this
 have r1:∀ w,(Instr.index 9 (.string c) (.int .i64 p)).run Tryz.prog w=.ok (.int .u8 (x.toNat:Int)) w:=fun w=>run_byte w _ c p x (by kernel_rfl) hx
 have a0:=cell_of h 0
 have a1:=cell_of h 1
 have af:=z0e h 1
 have d1:decide (c.size<=p)=false:=by simp;exact hlt
 have hs:∀ n,(w.drewN n).heap[R]?=some (.cells #[.string c,.int .i64 p] 224 (0,0)):=fun n=>h
 clear h hx
 go_enter Tryz.func125,Tryz.ntmps125
 go_wp2_with fail
 go_quiet (fail)
 go_wp2_with fail
 have h2:((w.drewN nq).setCell ⟨R,1,none⟩ (.int .i64 ((p:Int)+1))).heap[R]?=some (.cells #[.string c,.int .i64 (p+1:Nat)] 224 (0,0)):=by
  have:=heap_set (i:=1) (v:=.int .i64 ((p:Int)+1)) (hs nq)
  simpa using this
 have hM:Mod (·=R) w ((w.drewN nq).setCell ⟨R,1,none⟩ (.int .i64 ((p:Int)+1))):=by
  have h0:Mod (·=R) w (w.drewN nq):=⟨rfl,rfl,rfl,Nat.le_refl _,fun _ _ _=>rfl⟩
  exact Mod.setCell (S:=(·=R)) (p:=⟨R,1,none⟩) h0 (.inl rfl) _
 generalize (w.drewN nq).setCell ⟨R,1,none⟩ (.int .i64 ((p:Int)+1))=W at *
 have b0:=cell_of h2 0
 have b1:=cell_of h2 1
 have H2:=hid h2
 have HM:=hid hM
 clear h2 hM a0 a1 af hs
 go_quiet (fail)
 go_wp2_with fail
 go_ret
 exact⟨rfl,H2.out,HM.out.trans ⟨rfl,rfl,rfl,Nat.le_refl _,fun _ _ _=>rfl⟩ (fun _ _ h=>h)⟩
end
end Go.Proofs.YtgdmfledhhoedaaGreatDoor.D
namespace Go.Burg
open Go Go.RowKit
def encL:List UInt8->List UInt8
 | []=>[0,0]
 | x :: l=>if x=0 then 0 :: 1 :: encL l else x :: encL l
theorem encL_nil:encL []=[0,0]:=rfl
theorem encL_zero (l:List UInt8):encL (0 :: l)=0 :: 1 :: encL l:=by simp[encL]
theorem encL_cons {x:UInt8} (l:List UInt8) (h:x≠0):encL (x :: l)=x :: encL l:=by simp[encL,h]
variable {l m:List UInt8} {R p:Nat}
theorem drop_get {x:UInt8} (h:l.drop p=x :: m):l[p]?=some x/\l.drop (p+1)=m:=by
 refine⟨?_,?_⟩
 ·have:=List.getElem?_drop (xs:=l) (i:=p) (j:=0)
  rw[h] at this
  simpa using this.symm
 ·rw[<- List.drop_drop,h];rfl
variable {w:World}
theorem z2h {w':World} (h:Mod (·=R) w w') {b:Nat} {o:Obj} (hb:w.heap[b]?=some o) (hn:b≠R):w'.heap[b]?=some o:=(h.block b (lt_of_block hb) hn).trans hb
def atOf (R:Nat) (w:World):Nat:=match w.cell? ⟨R,1,none⟩ with
 | some (.int _ p)=>p.toNat
 | _=>0
theorem atOf_at {v:Value} {T:TypeId} (h:w.heap[R]?=some (.cells #[v,.int .i64 (p:Nat)] T (0,0))):atOf R w=p:=by
 have:=cell_of h 1
 simp at this
 simp[atOf,this]
theorem drop_lt {x:UInt8} (h:l.drop p=x :: m):p<l.length:=by
 have:=(drop_get h).1
 exact (List.getElem?_eq_some_iff.1 this).1
end Go.Burg
namespace Go.Proofs.YtgdmfledhhoedaaGreatDoor.D
set_option maxRecDepth 8000
open Go.ChangeShapes Go.WideShapes Go.ChangeAt Go.RowKit Go.Burg Go.Shelf
attribute [local go_sem] Oper.semAt_some
def encB (x:UInt8):Array Value:=#[.int .u8 (x.toNat:Int)]
set_option maxRecDepth 100000 in
set_option maxHeartbeats 4000000 in
theorem key1_turn {c:ByteArray} (B R n₀:Nat) (K:List UInt8) (w0:World) (hB:w0.heap[B]?=some (.cells #[.pointer (some ⟨R,0,none⟩)] 220 (0,0))) (hR:w0.heap[R]?=some (.cells #[.string c,.int .i64 (0:Nat)] 224 (0,0))) (hc:byt c=encL K) (hsz:c.size<=100000) (hn:n₀<=B)
 (Mine:World->Nat->Prop) (hM:MineOk n₀ Mine) (hMR:∀ A B i,n₀<=A.heap.size->Mod (·=R) A B->Mine B i->Mine A i) (hnm:¬ Mine w0 B) :
 SeqTurn R (.cells #[.string c,.int .i64 c.size] 224 (0,0)) Mine Tryz.prog 124 #[.pointer (some ⟨B,0,none⟩)] encB n₀ (fun xs=>xs=K) (fun pre=>pre <+: K) K.length w0:=by
 intro l J Jx W hW hml hJ hJx hJR hJxR hY h0
 have hne:B≠R:=fun e=>by
  subst e
  rw[hB] at hR
  simp at hR
 have hB1:=(hW.block B (lt_of_block hB)).trans hB
 have hR1:=(hW.block R (lt_of_block hR)).trans hR
 have hnm1:=hM.priv (by have:=lt_of_block hB;omega) hnm hW
 have HY:=hid hY
 have HNE:=hid hne
 clear hY hB hR hnm hml hW
 refine (callsIn_wide (n:=8)).1 ?_
 refine callsIn_of_wp Tryz.func124 rfl trivial ?_ rfl
 simp only[Tryz.ntmps124,List.size_toArray,List.length_cons,List.length_nil,Nat.reduceAdd,Nat.reduceSub,Array.replicate_succ,Array.replicate_zero,List.push_toArray,List.append_toArray,List.nil_append,List.cons_append]
 gi_wp2_with fail
 gi_loopw [3] (fun _ wr=>∃ n p:Nat,n<=K.length/\(byt c).drop p=encL (K.drop n)/\J (K.take n) wr/\wr.heap[B]?=some (.cells #[.pointer (some ⟨R,0,none⟩)] 220 (0,0))/\wr.heap[R]?=some (.cells #[.string c,.int .i64 p] 224 (0,0))/\¬ Mine wr B) (fun _ wr=>c.size - atOf R wr)
 case atStart=>exact⟨0,0,by omega,by simpa using hc,by simpa using h0,hB1,hR1,hnm1⟩
 case round =>
  obtain⟨n,p,hnK,hdrop,hJs,hB,hR,hnm⟩:=hrel
  clear h0 hB1 hR1 hnm1
  cases hK:K.drop n with
  | nil =>
   rw[hK,encL_nil] at hdrop
   obtain⟨g1,hd1⟩:=drop_get hdrop
   obtain⟨g2,hd2⟩:=drop_get hd1
   have hend:p+1+1=c.size:=by
    have h1:=drop_lt hd1
    have h2:(byt c).length<=p+1+1:=List.drop_eq_nil_iff.1 hd2
    rw[z1b] at h1 h2
    omega
   have HN:=hid (next_at wr hR g1 hsz)
   have q0:=cell_of hB 0
   have HR2:=hid (fun w1 h1=>next_at (x:=0) (p:=p+1) (R:=R) (c:=c) w1 h1 g2 hsz)
   have HB:=hid hB
   have HJS:=hid hJs
   have HK:=hid hK
   have HE:=hid hend
   clear hdrop hd1 hd2 g1 g2 hR hB hnm hJs hK hc hend HY
   gi_wp2_with fail
   refine⟨trivial,?_⟩
   refine ((callsIn_wide (n:=7)).2 HN.out).mono ?_
   rintro e w2 ⟨rfl,h2,hm2⟩
   have HN2:=hid (HR2.out w2 h2)
   have q1:=cell_of (z2h hm2 HB.out HNE.out) 0
   have HJ2:=hid (hJR _ _ _ HJS.out hm2)
   clear h2 hm2 HR2 HN q0 HB HJS
   gi_wp2_with fail
   refine⟨trivial,?_⟩
   refine ((callsIn_wide (n:=7)).2 HN2.out).mono ?_
   rintro e w3 ⟨rfl,h3,hm3⟩
   have HJ3:=hid (hJR _ _ _ HJ2.out hm3)
   have H3:=hid h3
   clear h3 hm3 HN2 HJ2 q1
   gi_wp2_with fail
   refine bodyPost_ret (results_none rfl _ _ _) rfl ?_
   refine⟨⟨_,rfl⟩,.inl ⟨_,rfl,?_,by rw[<- HE.out];exact H3.out⟩⟩
   have:=HJ3.out
   rwa [List.take_of_length_le (List.drop_eq_nil_iff.1 HK.out)] at this
  | cons x rest =>
   have hnlt:n<K.length:=drop_lt hK
   have htk:K.take n++[x]=K.take (n+1):=by rw[List.take_add_one,(drop_get hK).1];rfl
   have hK2:=(drop_get hK).2
   by_cases hx:x=0
   ·subst hx
    rw[hK,encL_zero] at hdrop
    obtain⟨g1,hd1⟩:=drop_get hdrop
    obtain⟨g2,hd2⟩:=drop_get hd1
    have hp1:=drop_lt hd1
    rw[z1b] at hp1
    have HN:=hid (next_at wr hR g1 hsz)
    have q0:=cell_of hB 0
    have HR2:=hid (fun w1 h1=>next_at (x:=1) (p:=p+1) (R:=R) (c:=c) w1 h1 g2 hsz)
    have HB:=hid hB
    have HJS:=hid hJs
    have HNM:=hid hnm
    have HPR:=hid hR
    have HD2:=hid hd2
    have HT:=hid htk
    have HK2:=hid hK2
    clear hdrop hd1 hd2 g1 g2 hR hB hnm hJs hK hc hK2 htk
    gi_wp2_with fail
    refine⟨trivial,?_⟩
    refine ((callsIn_wide (n:=7)).2 HN.out).mono ?_
    rintro e w2 ⟨rfl,h2,hm2⟩
    have HN2:=hid (HR2.out w2 h2)
    have HB2:=hid (z2h hm2 HB.out HNE.out)
    have q1:=cell_of HB2.out 0
    have HJ2:=hid (hJR _ _ _ HJS.out hm2)
    have HM2:=hid hm2
    clear h2 hm2 HR2 HN q0 HJS
    gi_wp2_with fail
    refine⟨trivial,?_⟩
    refine ((callsIn_wide (n:=7)).2 HN2.out).mono ?_
    rintro e w3 ⟨rfl,h3,hm3⟩
    have HJ3:=hid (hJR _ _ _ HJ2.out hm3)
    have H3:=hid h3
    have HB3:=hid (z2h hm3 HB2.out HNE.out)
    have HM3:=hid (HM2.out.trans hm3 (fun _ _ h=>h))
    clear h3 hm3 HN2 HJ2 q1 HB2 HM2
    have HNM3:=hid (fun h=>HNM.out (hMR _ _ _ (by have:=lt_of_block HB.out;omega) HM3.out h))
    clear HNM HM3 HB
    obtain⟨fn,tmps,assign,body,hy,hR⟩:=HY.out _ 0 _ 7 HJ3.out (by rw[List.length_take];omega)
    have e0:encB 0=#[.int .u8 0]:=rfl
    rw[e0] at hy
    clear e0
    have HRR:=hid hR
    clear hR
    gi_wp2_with fail
    refine HRR.out.mono ?_
    rintro e W3 (⟨rfl,hJ4,hk4,_,hr4⟩|⟨rfl,hJx4,_⟩)
    ·have HJ4:=hid hJ4
     have H4:=hid (hr4.trans H3.out)
     have HB4:Hid (W3.heap[B]?=some (.cells #[.pointer (some ⟨R,0,none⟩)] 220 (0,0))):=hid (hk4.cells B _ hn HNM3.out HB3.out rfl)
     have HNM4:=hid (hk4.priv HNM3.out (lt_of_block HB3.out))
     have HX:Hid (c.size - atOf R W3<c.size - atOf R wr):=hid (by rw[atOf_at H4.out,atOf_at HPR.out];omega)
     clear hJ4 hk4 hr4 HRR HB3 HJ3 H3 HNM3 HPR hy
     gi_wp2_with fail
     go_roundw
     case rel=>exact⟨n+1,p+1+1,by omega,by rw[HK2.out];exact HD2.out,by rw[<- HT.out];exact HJ4.out,HB4.out,H4.out,HNM4.out⟩
     case measure=>exact HX.out
    ·have HJ4:=hid hJx4
     clear hJx4 HRR HB3 HJ3 H3 HNM3 hy
     gi_wp2_with fail
     refine bodyPost_ret (results_none rfl _ _ _) rfl ?_
     exact⟨⟨_,rfl⟩,.inr ⟨_,by rw[HT.out];exact List.take_prefix _ _,HJ4.out⟩⟩
   ·rw[hK,encL_cons rest hx] at hdrop
    obtain⟨g1,hd1⟩:=drop_get hdrop
    have hp1:=drop_lt hdrop
    rw[z1b] at hp1
    have hx0:((x.toNat:Int) == 0)=false:=by
     have:¬ ((x.toNat:Int)=0):=fun e=>hx (UInt8.toNat_inj.1 (by simp;omega))
     exact beq_false_of_ne this
    have HN:=hid (next_at wr hR g1 hsz)
    have q0:=cell_of hB 0
    have HB:=hid hB
    have HJS:=hid hJs
    have HNM:=hid hnm
    have HPR:=hid hR
    have HD2:=hid hd1
    have HT:=hid htk
    have HK2:=hid hK2
    clear hdrop hd1 g1 hR hB hnm hJs hK hc hK2 htk hx
    gi_wp2_with fail
    refine⟨trivial,?_⟩
    refine ((callsIn_wide (n:=7)).2 HN.out).mono ?_
    rintro e w3 ⟨rfl,h3,hm3⟩
    have HB3:=hid (z2h hm3 HB.out HNE.out)
    have HJ3:=hid (hJR _ _ _ HJS.out hm3)
    have H3:=hid h3
    have HNM3:=hid (fun h=>HNM.out (hMR _ _ _ (by have:=lt_of_block HB.out;omega) hm3 h))
    clear h3 hm3 HN q0 HJS HNM HB
    obtain⟨fn,tmps,assign,body,hy,hR⟩:=HY.out _ x _ 7 HJ3.out (by rw[List.length_take];omega)
    have e0:encB x=#[.int .u8 (x.toNat:Int)]:=rfl
    rw[e0] at hy
    clear e0
    have HRR:=hid hR
    clear hR
    gi_wp2_with fail
    refine HRR.out.mono ?_
    rintro e W3 (⟨rfl,hJ4,hk4,_,hr4⟩|⟨rfl,hJx4,_⟩)
    ·have HJ4:=hid hJ4
     have H4:=hid (hr4.trans H3.out)
     have HB4:Hid (W3.heap[B]?=some (.cells #[.pointer (some ⟨R,0,none⟩)] 220 (0,0))):=hid (hk4.cells B _ hn HNM3.out HB3.out rfl)
     have HNM4:=hid (hk4.priv HNM3.out (lt_of_block HB3.out))
     have HX:Hid (c.size - atOf R W3<c.size - atOf R wr):=hid (by rw[atOf_at H4.out,atOf_at HPR.out];omega)
     clear hJ4 hk4 hr4 HRR HB3 HJ3 H3 HNM3 HPR hy
     gi_wp2_with fail
     go_roundw
     case rel=>exact⟨n+1,p+1,by omega,by rw[HK2.out];exact HD2.out,by rw[<- HT.out];exact HJ4.out,HB4.out,H4.out,HNM4.out⟩
     case measure=>exact HX.out
    ·have HJ4:=hid hJx4
     clear hJx4 HRR HB3 HJ3 H3 HNM3 hy
     gi_wp2_with fail
     refine bodyPost_ret (results_none rfl _ _ _) rfl ?_
     exact⟨⟨_,rfl⟩,.inr ⟨_,by rw[HT.out];exact List.take_prefix _ _,HJ4.out⟩⟩
theorem idle_in (n A B:Nat) (w:World):CallsDIn Fence.wide n Tryz.prog 113 #[.pointer (some ⟨A,0,none⟩),.pointer (some ⟨B,0,none⟩)] .returning w fun e u' w'=>e=.returned (.tuple #[])/\u'=.returning/\w'=w:=by
 have hta:∀ w,(Instr.typeAssert .nilIface 20 29 true).run Tryz.prog w=.ok (.tuple #[.int .i64 0,.bool false]) w:=fun w=>by kernel_rfl
 refine callsDIn_of_wpSIn Tryz.func113 rfl trivial fun c₀ cs hu=>?_
 simp only[Tryz.ntmps113,List.size_toArray,List.length_cons,List.length_nil,Nat.reduceAdd,Nat.reduceSub,Array.replicate_succ,Array.replicate_zero,List.push_toArray,List.append_toArray,List.nil_append,List.cons_append]
 apply wpSIn_seq
 apply wpSIn_region
 simp[wpOpsSIn,go_sem,recoverD,hu,Exit.thenS,hta]
 apply wpSIn_seq
 apply wpSIn_region
 simp[wpOpsSIn,go_sem,Exit.thenS]
 refine wpSIn_cond (t:=false) (by simp[Act.eval]) ?_
 simp only[Bool.false_eq_true,if_false]
 refine wpSIn_of_wpIn rfl (wpIn_wide.2 (wp_skip ?_))
 cases c₀
 simp_all [bodyPostS,results,Tryz.results113]
end Go.Proofs.YtgdmfledhhoedaaGreatDoor.D
namespace Go.Burg
open Go Go.RowKit
def u8L (l:List UInt8):List Value:=l.map fun x=>.int .u8 (x.toNat:Int)
theorem u8L_snoc (l:List UInt8) (x:UInt8):u8L (l++[x])=u8L l++[.int .u8 (x.toNat:Int)]:=by simp[u8L]
end Go.Burg
namespace Go.Proofs.YtgdmfledhhoedaaGreatDoor.D
set_option maxRecDepth 8000
open Go.ChangeShapes Go.WideShapes Go.ChangeAt Go.RowKit Go.Burg Go.Shelf
def MineAt (o:Nat) (W:World) (i:Nat):Prop:=∃ n c,W.cell? ⟨o,0,none⟩=some (.slice (some ⟨i,0,none⟩) n c)
variable {B k n n₀ s:Nat}
theorem mineAt_ok {o:Nat} (h:o<n₀):MineOk n₀ (MineAt o):=⟨fun {W W' row i} hn hg hr hm=>by
 have e:W'.heap[o]?=W.heap[o]?:=hg.block o (by omega) (fun e=>by have:=(hr _ e.symm).1;omega)
 obtain⟨n,c,hm⟩:=hm
 exact⟨n,c,(World.cell?_of_block (w:=W) e).symm.trans hm⟩⟩
structure DcI (u:Nat) (w:World) (pre:List UInt8) (W:World):Prop where
 s:W.heap[u]?=some (.cells #[.string ⟨#[]⟩] 9 (0,0))
 e:W.heap[u+1]?=some (.cells #[.int .i64 0] 29 (0,0))
 o:∃ v,W.heap[u+1+1+1]?=some (.cells #[v] 23 (0,0))/\W.ownsRow (u+1+1+1+1) 5 1 v pre.length (u8L pre)
 b:Below u w W
 z:u+1+1+1+1+1<=W.heap.size
variable {xs:List Value} {S:Nat->Prop} {e:TypeId} {v:Value} {w:World}
section
variable {u:Nat} {w W W':World} {pre:List UInt8}
theorem own_blk {A:World} {e:Nat} (h:A.ownsRow B e s v n xs) (hk:v.ownBlock=some k):∃ n' c,v=.slice (some ⟨k,0,none⟩) n' c/\∃ o:Obj,A.heap[k]?=some o/\o.isCells=true:=by
 obtain⟨_,⟨rfl,_⟩|⟨g,cap,cur,rfl,_,hg,_⟩⟩:=h
 ·simp[Value.ownBlock] at hk
 ·simp only[Value.ownBlock,Option.some.injEq] at hk;subst hk;exact⟨_,_,rfl,_,hg,rfl⟩
theorem own_ge' (h:w.ownsRow B e s v n xs) (hk:v.ownBlock=some k):B<=k/\k<w.heap.size:=h.lt k hk
theorem own_mod' {w':World} (h:w.ownsRow B e s v n xs) (hM:Mod S w w') (hs:∀ k,v.ownBlock=some k->¬ S k):w'.ownsRow B e s v n xs:=by
 have h':=h
 obtain⟨h1,h2|⟨g,cap,cur,a,b,c,d⟩⟩:=h
 ·exact⟨h1,.inl h2⟩
 ·exact⟨h1,.inr ⟨g,cap,cur,a,b,(hM.block g (lt_of_block c) (hs g (by rw[a];rfl))).trans c,d⟩⟩
theorem DcI.mod (h:DcI u w pre W) (hM:Mod S W W') (h0:∀ k,S k->u<=k/\k≠u/\k≠u+1/\k≠u+1+1+1)
 (hr:∀ v,W.ownsRow (u+1+1+1+1) 5 1 v pre.length (u8L pre)->∀ k,v.ownBlock=some k->¬ S k):DcI u w pre W':=by
 obtain⟨v,h1,h2⟩:=h.o
 have hb:=h.b
 refine⟨(hM.block u (lt_of_block h.s) (fun e=>(h0 _ e).2.1 rfl)).trans h.s,(hM.block _ (lt_of_block h.e) (fun e=>(h0 _ e).2.2.1 rfl)).trans h.e,⟨v,(hM.block _ (lt_of_block h1) (fun e=>(h0 _ e).2.2.2 rfl)).trans h1,own_mod' h2 hM (hr v h2)⟩,?_,Nat.le_trans h.z hM.size⟩
 exact hb.trans ⟨hM.os,hM.tape,hM.output,hM.size,fun k hk=>hM.block k (by have:=lt_of_block h.s;omega) (fun e=>by have:=(h0 k e).1;omega)⟩
theorem DcI.abR:AbR (u+1+1) (DcI u w):=fun s A B h hM=>h.mod hM (fun k e=>by have:k=u+1+1:=e;omega) (fun v hv k hk e=>by have:k=u+1+1:=e;have:=(own_ge' hv hk).1;omega)
theorem DcI.own (hn:u+1+1+1+1<=n₀):OwnFrom n₀ (DcI u w):=by
 rintro s A C row h hg hr
 have hMo:Mod (fun k=>row=some k) A C:=⟨hg.os,hg.tape,hg.output,hg.size,fun k hk hn=>hg.block k hk (fun e=>hn e.symm)⟩
 refine h.mod hMo (fun k e=>by have:=(hr k e).1;omega) (fun v hv k hk e=>?_)
 obtain⟨_,o,ho,hoc⟩:=hr k e
 obtain⟨_,_,_,o2,h2,h3⟩:=own_blk hv hk
 rw[ho] at h2
 cases h2
 rw[hoc] at h3
 cases h3
theorem DcI.round {x:UInt8} {v':Value} {w2:World} (h:DcI u w pre W) (h1:W.heap[u+1+1+1]?=some (.cells #[v] 23 (0,0))) (hv:W.ownsRow (u+1+1+1+1) 5 1 v pre.length (u8L pre))
 {o':Obj} (g1:w2.ownsRow (u+1+1+1+1) 5 1 v' (pre.length+1) (u8L pre++[.int .u8 (x.toNat:Int)])) (g2:(W.alloc o').grownBy w2 v.ownBlock) (g4:v'.ownBlock=v.ownBlock\/v'.ownBlock=some (W.heap.size+1)) :
 w2.heap[u+1+1+1]?=some (.cells #[v] 23 (0,0))/\DcI u w (pre++[x]) (w2.setCell ⟨u+1+1+1,0,none⟩ v')/\(w2.setCell ⟨u+1+1+1,0,none⟩ v').heap[u+1+1+1]?=some (.cells #[v'] 23 (0,0)) /\
  KeepsFrom (u+1+1+1+1+1) W (w2.setCell ⟨u+1+1+1,0,none⟩ v')/\KpM (u+1+1+1+1) (MineAt (u+1+1+1)) W (w2.setCell ⟨u+1+1+1,0,none⟩ v')/\(w2.setCell ⟨u+1+1+1,0,none⟩ v').heap[u+1+1]?=W.heap[u+1+1]?:=by
 have hA:Mod (fun _=>False) W (W.alloc o'):=⟨rfl,rfl,rfl,by simp,fun k hk _=>Below.heap_alloc _ _ _ hk⟩
 have hG:Mod (fun k=>v.ownBlock=some k) (W.alloc o') w2:=⟨g2.os,g2.tape,g2.output,g2.size,fun k hk hn=>g2.block k hk (fun e=>hn e.symm)⟩
 have hW2:Mod (fun k=>v.ownBlock=some k) W w2:=(hA.mono fun _ _ h=>h.elim).trans hG (fun _ _ h=>h)
 have hM:Mod (fun k=>v.ownBlock=some k\/k=u+1+1+1) W (w2.setCell ⟨u+1+1+1,0,none⟩ v'):=Mod.setCell (S:=fun k=>v.ownBlock=some k\/k=u+1+1+1) (p:=⟨u+1+1+1,0,none⟩) (hW2.mono fun _ _ h=>.inl h) (.inl (.inr rfl)) _
 have hge:∀ k,v.ownBlock=some k->u+1+1+1+1<=k:=fun k hk=>(own_ge' hv hk).1
 have ho2:w2.heap[u+1+1+1]?=some (.cells #[v] 23 (0,0)):=(hW2.block _ (lt_of_block h1) (fun e=>by have:=hge _ e;omega)).trans h1
 have ho3:(w2.setCell ⟨u+1+1+1,0,none⟩ v').heap[u+1+1+1]?=some (.cells #[v'] 23 (0,0)):=by
  have:=heap_set (i:=0) (v:=v') ho2
  simpa using this
 have hz:=h.z
 have hsA:(W.alloc o').heap.size=W.heap.size+1:=by simp
 have hge2:∀ k,v'.ownBlock=some k->u+1+1+1+1<=k:=fun k hk=>(own_ge' g1 hk).1
 have hMs:Mod (·=u+1+1+1) w2 (w2.setCell ⟨u+1+1+1,0,none⟩ v'):=Mod.setCell (S:=(·=u+1+1+1)) (p:=⟨u+1+1+1,0,none⟩) (Mod.refl _ _) (.inl rfl) _
 have hx:∀ k,v.ownBlock=some k\/k=u+1+1+1->u+1+1+1<=k:=fun k e=>e.elim (fun e=>by have:=hge k e;omega) (fun e=>by omega)
 refine⟨ho2,⟨?_,?_,⟨v',ho3,?_⟩,?_,Nat.le_trans hz hM.size⟩,ho3,⟨hM.size,fun k o hk hok hoc=>?_⟩,⟨hM.size,fun i o hi hm hok hoc=>?_,fun i hm=>?_⟩,?_⟩
 ·exact (hM.block u (lt_of_block h.s) (fun e=>by have:=hx _ e;omega)).trans h.s
 ·exact (hM.block _ (lt_of_block h.e) (fun e=>by have:=hx _ e;omega)).trans h.e
 ·rw[u8L_snoc,List.length_append]
  exact own_mod' g1 hMs (fun k hk e=>by have:=hge2 k hk;have:k=u+1+1+1:=e;omega)
 ·exact h.b.trans ⟨hM.os,hM.tape,hM.output,hM.size,fun k hk=>hM.block k (by omega) (fun e=>by have:=hx _ e;omega)⟩
 ·refine (hM.block k (lt_of_block hok) (fun e=>?_)).trans hok
  rcases e with e|e
  ·obtain⟨_,_,_,o2,h2,h3⟩:=own_blk hv e
   rw[hok] at h2
   cases h2
   rw[hoc] at h3
   cases h3
  ·omega
 ·refine (hM.block i (lt_of_block hok) (fun e=>?_)).trans hok
  rcases e with e|e
  ·obtain⟨n',c,e2,_⟩:=own_blk hv e
   exact hm ⟨n',c,by rw[cell_of h1 0,e2];rfl⟩
  ·omega
 ·obtain⟨n,c,hm⟩:=hm
  rw[cell_of ho3 0] at hm
  have e:v'=.slice (some ⟨i,0,none⟩) n c:=by simpa using hm
  rw[e] at g4
  rcases g4 with g4|g4
  ·obtain⟨n',c',e2,_⟩:=own_blk hv (g4.symm.trans rfl)
   exact .inl ⟨n',c',by rw[cell_of h1 0,e2];rfl⟩
  ·simp only[Value.ownBlock,Option.some.injEq] at g4
   exact .inr (by omega)
 ·exact hM.block _ (by omega) (fun e=>by have:=hx _ e;omega)
theorem own_string {l:List UInt8} (h:W.ownsRow B 5 1 v n (u8L l)):(convert 23 9 v).run Tryz.prog W=.ok (.string ⟨l.toArray⟩) W:=by
 have hz:∀ W:World,(convert 23 9 (.slice none 0 0)).run Tryz.prog W=.ok (.string ⟨#[]⟩) W:=fun W=>by kernel_rfl
 have h':=h
 obtain⟨h1,⟨rfl,rfl⟩|⟨g,cap,cur,rfl,_,hg,hd⟩⟩:=h
 ·have:l=[]:=by simpa[u8L] using h1
  subst this
  exact hz W
 ·have hn:n=l.length:=by simp[u8L] at h1;omega
  subst hn
  refine run_convert_bytes_back (P:=Tryz.prog) W _ _ 5 ⟨g,0,none⟩ cap l Tryz.underlying23 (by kernel_rfl) Tryz.underlying9 (fun j hj=>?_)
  have e:(⟨g,0,none⟩:Addr).add j=⟨g,j,none⟩:=by unfold Addr.add;split<;>simp_all
  rw[e]
  have h2:(u8L l)[j]?=some (.int .u8 (l[j].toNat:Int)):=by simp[u8L,hj]
  rw[h'.cellAt j (by simpa using hj),h2]
end
attribute [local go_sem] Oper.semAt_some
theorem blk_a {b:Nat} {o o':Obj} (h:w.heap[b]?=some o):(w.alloc o').heap[b]?=some o:=(Below.heap_alloc _ _ _ (lt_of_block h)).trans h
theorem addr_ad (g j:Nat):(⟨g,0,none⟩:Addr).add j=⟨g,0+j,none⟩:=by unfold Addr.add;split<;>simp_all
theorem own_sl (h:w.ownsRow B e s v n xs):∃ a c,v=.slice a n c:=by
 obtain⟨_,⟨rfl,rfl⟩|⟨g,cap,cur,rfl,_⟩⟩:=h
 ·exact⟨_,_,rfl⟩
 ·exact⟨_,_,rfl⟩
theorem key_at {R:Nat} (w:World) :
 Calls Tryz.prog 114 #[.pointer (some ⟨R,0,none⟩)] w fun e w'=>e=.returned (.func (.func 124) #[] #[.pointer (some ⟨w.heap.size,0,none⟩)])/\w'=w.alloc (.cells #[.pointer (some ⟨R,0,none⟩)] 220 (0,0)):=by
 have hmf:=makeF Tryz.prog
 go_enter Tryz.func114,Tryz.ntmps114
 go_wp2_with fail
 go_ret
 exact⟨rfl,rfl⟩
set_option maxRecDepth 100000 in
set_option maxHeartbeats 8000000 in
theorem Decode_at {c:ByteArray} {K:List UInt8} (w:World) (hc:byt c=encL K) (hsz:c.size<=100000) (hK:K.length<=16) :
 Calls Tryz.prog 93 #[.string c] w fun e w'=>e=.returned (.tuple #[.string ⟨K.toArray⟩,.int .i64 0])/\Below w.heap.size w w':=by
 have hmf:=makeF Tryz.prog
 refine (callsIn_wide (n:=8)).1 ?_
 refine callsIn_of_wp_marks Tryz.func93 rfl trivial ?_ rfl
 refine wpIn_wide.2 ?_
 simp only[Tryz.ntmps93,List.size_toArray,List.length_cons,List.length_nil,Nat.reduceAdd,Nat.reduceSub,Array.replicate_succ,Array.replicate_zero,List.push_toArray,List.append_toArray,List.nil_append,List.cons_append]
 go_wp2_with (go_at_call 114;refine (key_at _).mono ?_;rintro e w2 ⟨rfl,rfl⟩)
 have hs1:(w.alloc (.cells #[.string ⟨#[]⟩] 9 (0,0))).heap.size=w.heap.size+1:=by simp
 have hs2:((w.alloc (.cells #[.string ⟨#[]⟩] 9 (0,0))).alloc (.cells #[.int .i64 0] 29 (0,0))).heap.size=w.heap.size+1+1:=by simp
 have hs3:(((w.alloc (.cells #[.string ⟨#[]⟩] 9 (0,0))).alloc (.cells #[.int .i64 0] 29 (0,0))).alloc (.cells #[.string c,.int .i64 0] 224 (0,0))).heap.size=w.heap.size+1+1+1:=by simp
 have hs4:((((w.alloc (.cells #[.string ⟨#[]⟩] 9 (0,0))).alloc (.cells #[.int .i64 0] 29 (0,0))).alloc (.cells #[.string c,.int .i64 0] 224 (0,0))).alloc (.cells #[.slice none 0 0] 23 (0,0))).heap.size=w.heap.size+1+1+1+1:=by simp
 have hs5:(((((w.alloc (.cells #[.string ⟨#[]⟩] 9 (0,0))).alloc (.cells #[.int .i64 0] 29 (0,0))).alloc (.cells #[.string c,.int .i64 0] 224 (0,0))).alloc (.cells #[.slice none 0 0] 23 (0,0))).alloc (.cells #[.pointer (some ⟨w.heap.size+1+1,0,none⟩)] 220 (0,0))).heap.size=w.heap.size+1+1+1+1+1:=by simp
 have b0:=blk_a (o':=(.cells #[.pointer (some ⟨w.heap.size+1+1,0,none⟩)] 220 (0,0))) (blk_a (o':=(.cells #[.slice none 0 0] 23 (0,0))) (blk_a (o':=(.cells #[.string c,.int .i64 0] 224 (0,0))) (blk_a (o':=(.cells #[.int .i64 0] 29 (0,0))) (z0a w (.cells #[.string ⟨#[]⟩] 9 (0,0))))))
 have b1:=blk_a (o':=(.cells #[.pointer (some ⟨w.heap.size+1+1,0,none⟩)] 220 (0,0))) (blk_a (o':=(.cells #[.slice none 0 0] 23 (0,0))) (blk_a (o':=(.cells #[.string c,.int .i64 0] 224 (0,0))) (z0a (w.alloc (.cells #[.string ⟨#[]⟩] 9 (0,0))) (.cells #[.int .i64 0] 29 (0,0)))))
 have b2:=blk_a (o':=(.cells #[.pointer (some ⟨w.heap.size+1+1,0,none⟩)] 220 (0,0))) (blk_a (o':=(.cells #[.slice none 0 0] 23 (0,0))) (z0a ((w.alloc (.cells #[.string ⟨#[]⟩] 9 (0,0))).alloc (.cells #[.int .i64 0] 29 (0,0))) (.cells #[.string c,.int .i64 0] 224 (0,0))))
 have b3:=blk_a (o':=(.cells #[.pointer (some ⟨w.heap.size+1+1,0,none⟩)] 220 (0,0))) (z0a (((w.alloc (.cells #[.string ⟨#[]⟩] 9 (0,0))).alloc (.cells #[.int .i64 0] 29 (0,0))).alloc (.cells #[.string c,.int .i64 0] 224 (0,0))) (.cells #[.slice none 0 0] 23 (0,0)))
 have b4:=z0a ((((w.alloc (.cells #[.string ⟨#[]⟩] 9 (0,0))).alloc (.cells #[.int .i64 0] 29 (0,0))).alloc (.cells #[.string c,.int .i64 0] 224 (0,0))).alloc (.cells #[.slice none 0 0] 23 (0,0))) (.cells #[.pointer (some ⟨w.heap.size+1+1,0,none⟩)] 220 (0,0))
 rw[hs1] at b1
 rw[hs2] at b2
 rw[hs3] at b3
 rw[hs4] at b4
 have hB:Below w.heap.size w (((((w.alloc (.cells #[.string ⟨#[]⟩] 9 (0,0))).alloc (.cells #[.int .i64 0] 29 (0,0))).alloc (.cells #[.string c,.int .i64 0] 224 (0,0))).alloc (.cells #[.slice none 0 0] 23 (0,0))).alloc (.cells #[.pointer (some ⟨w.heap.size+1+1,0,none⟩)] 220 (0,0))):=(((((Below.refl _ _).alloc (Nat.le_refl _) _).alloc (by simp) _).alloc (by simp;omega) _).alloc (by simp;omega) _).alloc (by simp;omega) _
 generalize hWl:(((((w.alloc (.cells #[.string ⟨#[]⟩] 9 (0,0))).alloc (.cells #[.int .i64 0] 29 (0,0))).alloc (.cells #[.string c,.int .i64 0] 224 (0,0))).alloc (.cells #[.slice none 0 0] 23 (0,0))).alloc (.cells #[.pointer (some ⟨w.heap.size+1+1,0,none⟩)] 220 (0,0)))=Wl at *
 generalize hu:w.heap.size=u at *
 have h0:DcI u w [] Wl:=⟨b0,b1,⟨_,b3,World.ownsRow_nil _ _ _ _⟩,hB,by omega⟩
 have hnm:¬ MineAt (u+1+1+1) Wl (u+1+1+1+1):=by
  rintro ⟨n,c',hm⟩
  rw[cell_of b3 0] at hm
  simp at hm
 have hml:∀ i,MineAt (u+1+1+1) Wl i->i<Wl.heap.size:=by
  rintro i ⟨n,c',hm⟩
  rw[cell_of b3 0] at hm
  simp at hm
 have hMR:∀ A B i,u+1+1+1+1<=A.heap.size->Mod (·=u+1+1) A B->MineAt (u+1+1+1) B i->MineAt (u+1+1+1) A i:=by
  rintro A B i hsA hM ⟨n,c',hm⟩
  exact⟨n,c',(World.cell?_of_block (w:=A) (hM.block _ (show u+1+1+1<A.heap.size by omega) (show ¬ u+1+1+1=u+1+1 by omega))).symm.trans hm⟩
 have HT:=hid (key1_turn (u+1+1+1+1) (u+1+1) (u+1+1+1+1) K Wl b4 b2 hc hsz (Nat.le_refl _) (MineAt (u+1+1+1)) (mineAt_ok (by omega)) hMR hnm)
 have H0:=hid h0
 have HB:=hid hB
 have HU:=hid hu
 have HK:=hid hK
 have HML:=hid hml
 clear hWl hs1 hs2 hs3 hs4 b0 b1 b2 b3 b4 h0 hB hnm hMR hml hc
 refine wpIn_wide.1 (range_turn (n:=8) (u+1+1) (.cells #[.string c,.int .i64 c.size] 224 (0,0)) (by decide) (gf:=124) (lb:=#[.pointer (some ⟨(u+1+1+1+1),0,none⟩)]) rfl (enters_of Tryz.func124 (by kernel_rfl) rfl) (MineAt (u+1+1+1)) (mineAt_ok (by omega)) HT.out (by omega) (by omega) HML.out (Below.refl _ _) (fun _=>rfl)
  (DcI u w) (fun _ _=>False) (DcI.own (by omega)) (fun _ _ _ _ h _ _=>h) DcI.abR (fun _ _ _ h _=>h) H0.out (fun x a' _=>a'=({ tmps:=#[.string c,undef,.pointer (some ⟨u,0,none⟩),.pointer (some ⟨(u+1),0,none⟩),.pointer (some ⟨(u+1+1),0,none⟩),.pointer (some ⟨(u+1+1+1),0,none⟩),.int .u8 (x.toNat:Int),.func (.func 113) #[] #[.pointer (some ⟨u,0,none⟩),.pointer (some ⟨(u+1),0,none⟩)],.string c,.agg #[.string c,.int .i64 0],.agg #[.string c,.int .i64 0],.pointer (some ⟨(u+1+1),0,none⟩),.pointer (some ⟨(u+1+1),0,none⟩),.func (.func 124) #[] #[.pointer (some ⟨(u+1+1+1+1),0,none⟩)],.int .u8 (x.toNat:Int),undef,undef,undef,undef,undef,undef,undef,undef,undef,undef,undef,undef,undef,undef,undef,undef,undef],defers:=[] }:Act)) (fun _ _ _ _ _ _ h _ _=>h) ?assign ?body ?done ?stop)
 case assign =>
  rintro l pre x W K2 hI hK2
  dsimp only[encB]
  gi_wp2_with fail
  exact hK2 _ _ (KeepsFrom.refl _ _) (KpM.refl _ _ _) hI rfl rfl
 case body =>
  rintro l pre x a' W hl hrec hI rfl hlen
  obtain⟨v,h1,hv⟩:=hI.o
  obtain⟨i1,hi1,hz1,hs1,hby1⟩:=info_parts (P:=Tryz.prog) (e:=5) (z:=.int .u8 0) (size:=1) (bytes:=1) (by kernel_rfl)
  have HI1:=hid hi1
  have HZ1:=hid hz1
  have HS1:=hid hs1
  have HY1:=hid hby1
  have HI:=hid hI
  have H1:=hid h1
  have HV:=hid hv
  have q0:=cell_of h1 0
  have hnb:=z0a W (.cells #[.int .u8 (x.toNat:Int)] 5 (0,0))
  have HNB:=hid hnb
  have HLEN:=hid hlen
  have hsz1:=hI.z
  clear hi1 hz1 hs1 hby1 hI h1 hv hnb hlen
  gi_wp2_with (refine wpListIn_append_own_at (W.alloc (.cells #[.int .u8 (x.toNat:Int)] 5 (0,0))) rfl (.tmp 15) (.tmp 17) 23 rfl (u+1+1+1+1) 5 i1 (.int .u8 0) 1 1 Tryz.underlying23 HI1.out HZ1.out HS1.out HY1.out rfl (by decide) v pre.length (u8L pre) (by kernel_rfl) (HV.out.alloc _) ⟨W.heap.size,0,none⟩ 1 1 [.int .u8 (x.toNat:Int)] (by kernel_rfl) rfl (fun j z hj=>by rw[addr_ad,Nat.zero_add,cell_of HNB.out,List.getElem?_toArray];exact hj) (by simp[Value.oneCell']) (by have:=HLEN.out;have:=HK.out;simp[maxLen];omega) (by have:=HLEN.out;have:=HK.out;omega) (by simp;omega) ?_)
  intro v' w2 g1 g2 _ g4
  obtain⟨ho2,hI3,ho3,hk3,hp3,hr3⟩:=DcI.round HI.out H1.out HV.out g1 g2 g4
  obtain⟨a3,c3,rfl⟩:=own_sl g1
  clear q0
  have q1:=cell_of ho2 0
  have qf:=z0e ho2
  have q2:=cell_of ho3 0
  have HE:=hid (And.intro hk3 (And.intro hp3 (And.intro hI3 hr3)))
  have hle:decide ((pre.length:Int)+1 > 16)=false:=by have:=HLEN.out;have:=HK.out;simp;omega
  clear ho2 hI3 ho3 hk3 hp3 hr3 g1 g2 g4
  gi_wp2_with fail
  exact⟨by rw[hs5];exact HE.out.1,HE.out.2.1,HE.out.2.2.1,HE.out.2.2.2⟩
 case done =>
  rintro D xs W hD rfl hI hR hdf
  obtain⟨v,h1,hv⟩:=hI.o
  have hst:=own_string hv
  have r0:=cell_of hR 0
  have r1:=cell_of hR 1
  have q0:=cell_of h1 0
  have s0:=cell_of hI.s 0
  have sf:=z0e hI.s
  have e0:=cell_of hI.e 0
  have ef:=z0e hI.e
  have HI:=hid hI
  have HDF:=hid hdf
  clear hI hv h1 hR hdf hsz HT H0 HML HB
  go_wp2_with fail
  have hM:Mod (fun k=>k=u\/k=u+1) W ((W.setCell ⟨u,0,none⟩ (.string ⟨xs.toArray⟩)).setCell ⟨u+1,0,none⟩ (.int .i64 0)) :=
   Mod.setCell (S:=fun k=>k=u\/k=u+1) (p:=⟨u+1,0,none⟩) (Mod.setCell (S:=fun k=>k=u\/k=u+1) (p:=⟨u,0,none⟩) (Mod.refl _ _) (.inl (.inl rfl)) _) (.inl (.inr rfl)) _
  have m0:((W.setCell ⟨u,0,none⟩ (.string ⟨xs.toArray⟩)).setCell ⟨u+1,0,none⟩ (.int .i64 0)).heap[u]?=some (.cells #[.string ⟨xs.toArray⟩] 9 (0,0)):=by
   have h1:=heap_set (i:=0) (v:=.string ⟨xs.toArray⟩) HI.out.s
   have hMs:Mod (·=u+1) (W.setCell ⟨u,0,none⟩ (.string ⟨xs.toArray⟩)) ((W.setCell ⟨u,0,none⟩ (.string ⟨xs.toArray⟩)).setCell ⟨u+1,0,none⟩ (.int .i64 0)):=Mod.setCell (S:=(·=u+1)) (p:=⟨u+1,0,none⟩) (Mod.refl _ _) (.inl rfl) _
   have h2:=(hMs.block u (lt_of_block h1) (by show ¬ u=u+1;omega)).trans h1
   simpa using h2
  have m1:((W.setCell ⟨u,0,none⟩ (.string ⟨xs.toArray⟩)).setCell ⟨u+1,0,none⟩ (.int .i64 0)).heap[u+1]?=some (.cells #[.int .i64 0] 29 (0,0)):=by
   have hMs:Mod (·=u) W (W.setCell ⟨u,0,none⟩ (.string ⟨xs.toArray⟩)):=Mod.setCell (S:=(·=u)) (p:=⟨u,0,none⟩) (Mod.refl _ _) (.inl rfl) _
   have h1:=heap_set (i:=0) (v:=.int .i64 0) ((hMs.block (u+1) (lt_of_block HI.out.e) (by show ¬ u+1=u;omega)).trans HI.out.e)
   simpa using h1
  generalize (W.setCell ⟨u,0,none⟩ (.string ⟨xs.toArray⟩)).setCell ⟨u+1,0,none⟩ (.int .i64 0)=W2 at *
  have hdf2:=(hM.block D (lt_of_block HDF.out) (by show ¬ (D=u\/D=u+1);omega)).trans HDF.out
  refine⟨by simp,.inl ⟨_,_,rfl,run_takeDeferred hdf2,?_⟩⟩
  refine⟨by simp,.inr ⟨(fun h=>by cases h),_,_,113,#[.pointer (some ⟨u,0,none⟩),.pointer (some ⟨(u+1),0,none⟩)],rfl,by simp[go_sem],fun _ _=>trivial,?_⟩⟩
  refine (idle_in _ _ _ _).mono ?_
  rintro e u' w'' ⟨rfl,rfl,rfl⟩
  have p0:=cell_of ((World.putObj_heap_other (w:=W2) (r:=D) (o:=.deferred none) (k:=u) (by omega)).trans m0) 0
  have p1:=cell_of ((World.putObj_heap_other (w:=W2) (r:=D) (o:=.deferred none) (k:=u+1) (by omega)).trans m1) 0
  refine⟨.tuple #[.string ⟨xs.toArray⟩,.int .i64 0],by simp[results,Tryz.results93,go_sem,p0,p1],rfl,?_⟩
  rw[hu]
  exact HI.out.b.trans ⟨hM.os,hM.tape,hM.output,by simpa using hM.size,fun k hk=>(World.putObj_heap_other (by omega)).trans (hM.block k (by have:=lt_of_block HI.out.s;omega) (by show ¬ (k=u\/k=u+1);omega))⟩
 case stop=>exact fun D pre W hD hp h hk=>h.elim
end Go.Proofs.YtgdmfledhhoedaaGreatDoor.D
namespace Go.Burg
open Go
def z2l (c:ByteArray):Prop:=∃ K:List UInt8,byt c=encL K/\K.length<=16
theorem encL_len:∀ K:List UInt8,(encL K).length<=2 * K.length+2
 | []=>by simp[encL]
 | x :: l=>by
  have:=encL_len l
  unfold encL
  split<;>simp<;>omega
theorem z2l.size {c:ByteArray} (h:z2l c):c.size<=34:=by
 obtain⟨K,h1,h2⟩:=h
 have:=encL_len K
 rw[<- h1,z1b] at this
 omega
end Go.Burg
namespace Go.Proofs.YtgdmfledhhoedaaGreatDoor.D
set_option maxRecDepth 8000
open Go.ChangeShapes Go.WideShapes Go.ChangeAt Go.RowKit Go.Burg Go.Shelf
theorem Is_at {c:ByteArray} (w:World) (h:z2l c):Calls Tryz.prog 64 #[.string c] w fun e w'=>e=.returned (.bool true)/\Below w.heap.size w w':=by
 have hs:=h.size
 obtain⟨K,h1,h2⟩:=h
 have HD:=hid (Decode_at w h1 (by omega) h2)
 clear h1 h2 hs
 go_enter Tryz.func64,Tryz.ntmps64
 go_wp2_with (go_at_call 93;refine HD.out.mono ?_;rintro e w2 ⟨rfl,hb⟩)
 go_ret
 exact⟨by first|rfl|simp,hb⟩
end Go.Proofs.YtgdmfledhhoedaaGreatDoor.D
namespace Go
def Exit.jumps (J:Nat->Act->World->Prop) (Q:Exit->Act->World->Prop):Exit->Act->World->Prop
 | .goto l,a,w=>J l a w
 | e,a,w=>Q e a w
section
variable {P:Program} {a:Act} {w:World} {Q:Exit->Act->World->Prop}
theorem wp_scope_two {c r0 r1:Code} (l0 l1:Nat) (J0 J1:Act->World->Prop) (μ:Act->World->Nat) (h0:findLabel c l0=some (Code.skip.seq r0)) (h1:findLabel c l1=some (Code.skip.seq r1))
 (first:(∀ a w,J0 a w->r0.wp P (Exit.jumps (fun l a' w'=>(l=l0/\J0 a' w')\/(l=l1/\J1 a' w')) Q) a w)->c.wp P (Exit.jumps (fun l a' w'=>(l=l0/\J0 a' w')\/(l=l1/\J1 a' w')) Q) a w)
 (pass0:∀ a w,J0 a w->r0.wp P (Exit.jumps (fun l a' w'=>(l=l0/\J0 a' w'/\μ a' w'<μ a w)\/(l=l1/\J1 a' w')) Q) a w)
 (pass1:∀ a w,J1 a w->r1.wp P (Exit.jumps (fun _ _ _=>False) Q) a w):(Code.scope c).wp P Q a w:=by
 intro b k cs
 have hg0:gotoIn l0 (.inScope c :: k)=some (.code (Code.skip.seq r0) :: .inScope c :: k):=by simp[gotoIn,h0]
 have hg1:gotoIn l1 (.inScope c :: k)=some (.code (Code.skip.seq r1) :: .inScope c :: k):=by simp[gotoIn,h1]
 have key1:∀ a w,J1 a w->∃ e a' w',Q e a' w'/\Arrives P (lone (b.at a (.code (Code.skip.seq r1) :: .inScope c :: k)) cs w) b k cs e a' w':=by
  intro a w hJ
  obtain⟨e,a₁,w₁,hq,harr⟩:=(wp_seq (wp_skip (Q:=Exit.then (r1.wp P _) _) (pass1 a w hJ)):(Code.skip.seq r1).wp P _ a w) b (.inScope c :: k) cs
  cases e with
  | normal=>exact⟨.normal,a₁,w₁,hq,Steps.trans harr (.one step_inScope)⟩
  | exit id=>exact⟨.exit id,a₁,w₁,hq,fun k' hk=>harr k' (by simp[exitTo,hk])⟩
  | goto l'=>exact hq.elim
  | ret=>exact⟨_,a₁,w₁,hq,harr⟩
  | panic ch=>exact⟨_,a₁,w₁,hq,harr⟩
  | outgrown=>exact⟨_,a₁,w₁,hq,harr⟩
 have key:∀ n a w,μ a w=n->J0 a w->∃ e a' w',Q e a' w'/\Arrives P (lone (b.at a (.code (Code.skip.seq r0) :: .inScope c :: k)) cs w) b k cs e a' w':=by
  intro n
  induction n using Nat.strongRecOn with
  | _ n ih =>
   intro a w hn hJ
   obtain⟨e,a₁,w₁,hq,harr⟩:=(wp_seq (wp_skip (Q:=Exit.then (r0.wp P _) _) (pass0 a w hJ)):(Code.skip.seq r0).wp P _ a w) b (.inScope c :: k) cs
   cases e with
   | normal=>exact⟨.normal,a₁,w₁,hq,Steps.trans harr (.one step_inScope)⟩
   | exit id=>exact⟨.exit id,a₁,w₁,hq,fun k' hk=>harr k' (by simp[exitTo,hk])⟩
   | goto l' =>
    rcases hq with ⟨rfl,hJ',hlt⟩|⟨rfl,hJ'⟩
    ·obtain⟨e₂,a₂,w₂,hq₂,harr₂⟩:=ih _ (by omega) a₁ w₁ rfl hJ'
     exact⟨e₂,a₂,w₂,hq₂,.of_steps (harr _ hg0) harr₂⟩
    ·obtain⟨e₂,a₂,w₂,hq₂,harr₂⟩:=key1 a₁ w₁ hJ'
     exact⟨e₂,a₂,w₂,hq₂,.of_steps (harr _ hg1) harr₂⟩
   | ret=>exact⟨_,a₁,w₁,hq,harr⟩
   | panic ch=>exact⟨_,a₁,w₁,hq,harr⟩
   | outgrown=>exact⟨_,a₁,w₁,hq,harr⟩
 have weak:∀ a w,J0 a w->r0.wp P (Exit.jumps (fun l a' w'=>(l=l0/\J0 a' w')\/(l=l1/\J1 a' w')) Q) a w:=fun a w hJ b k cs=>by
  obtain⟨e,a₁,w₁,hq,harr⟩:=pass0 a w hJ b k cs
  refine⟨e,a₁,w₁,?_,harr⟩
  cases e with
  | goto l'=>exact hq.elim (fun h=>.inl ⟨h.1,h.2.1⟩) .inr
  | normal=>exact hq
  | exit id=>exact hq
  | ret=>exact hq
  | panic ch=>exact hq
  | outgrown=>exact hq
 obtain⟨e,a₁,w₁,hq,harr⟩:=first weak b (.inScope c :: k) cs
 cases e with
 | normal=>exact⟨.normal,a₁,w₁,hq,.head step_scope (Steps.trans harr (.one step_inScope))⟩
 | exit id=>exact⟨.exit id,a₁,w₁,hq,fun k' hk=>.head step_scope (harr k' (by simp[exitTo,hk]))⟩
 | goto l' =>
  rcases hq with ⟨rfl,hJ'⟩|⟨rfl,hJ'⟩
  ·obtain⟨e₂,a₂,w₂,hq₂,harr₂⟩:=key _ a₁ w₁ rfl hJ'
   exact⟨e₂,a₂,w₂,hq₂,.of_steps (.head step_scope (harr _ hg0)) harr₂⟩
  ·obtain⟨e₂,a₂,w₂,hq₂,harr₂⟩:=key1 a₁ w₁ hJ'
   exact⟨e₂,a₂,w₂,hq₂,.of_steps (.head step_scope (harr _ hg1)) harr₂⟩
 | ret=>exact⟨_,a₁,w₁,hq,.of_steps (.one step_scope) harr⟩
 | panic ch=>exact⟨_,a₁,w₁,hq,.of_steps (.one step_scope) harr⟩
 | outgrown=>exact⟨_,a₁,w₁,hq,.of_steps (.one step_scope) harr⟩
end
end Go
namespace Go.Burg
open Go Go.RowKit
structure SpotP where
 what:Nat
 way:List (Int × Int)
 at_:Nat
 depth:Nat
def rst (c:ByteArray) (d:Nat):ByteArray:=c.extract d c.size
theorem rst_size (c:ByteArray) (d:Nat):(rst c d).size=c.size - d:=by simp[rst,ByteArray.size_extract]
inductive SeekW (P:List (Cel PNd)) (c:ByteArray):Int × Int->Nat->List (Int × Int)->SpotP->Prop
 | leaf {r:Int × Int} {d:Nat} {W:List (Int × Int)} {i:Nat} {q:PNd} {c' v:ByteArray} (h:z0l P r.1 r.2 i q) (hn:q.n=.leaf c' v) (h1:d<=c.size) (h2:d<=c'.size):SeekW P c r d W ⟨if c'=c then 1 else 4,W++[r],if c'=c then 0 else com (rst c d) (rst c' d),d⟩
 | split {r:Int × Int} {d:Nat} {W:List (Int × Int)} {i:Nat} {q:PNd} {k:Nat} {pt:ByteArray} {L:List Kd} (h:z0l P r.1 r.2 i q) (hn:q.n=.z0k k pt L) (h1:d<=c.size) (h2:com (rst c d) pt<pt.size):SeekW P c r d W ⟨3,W++[r],com (rst c d) pt,d⟩
 | bare {r:Int × Int} {d:Nat} {W:List (Int × Int)} {i:Nat} {q:PNd} {k:Nat} {pt:ByteArray} {L:List Kd} {x:UInt8} (h:z0l P r.1 r.2 i q) (hn:q.n=.z0k k pt L) (h1:d<=c.size) (h2:com (rst c d) pt=pt.size) (hx:(byt (rst c d))[pt.size]?=some x) (hf:z0p L x.toNat=none):SeekW P c r d W ⟨2,W++[r],x.toNat,d⟩
 | down {r:Int × Int} {d:Nat} {W:List (Int × Int)} {i:Nat} {q:PNd} {k:Nat} {pt:ByteArray} {L:List Kd} {x:UInt8} {kk:Kd} {s:SpotP} (h:z0l P r.1 r.2 i q) (hn:q.n=.z0k k pt L) (h1:d<=c.size) (h2:com (rst c d) pt=pt.size) (hx:(byt (rst c d))[pt.size]?=some x) (hf:z0p L x.toNat=some kk)
  (hs:SeekW P c (kk.s,kk.g) (d+pt.size+1) (W++[r]) s):SeekW P c r d W s
end Go.Burg
namespace Go.Proofs.YtgdmfledhhoedaaGreatDoor.T
set_option maxRecDepth 8000
open Go.ChangeShapes Go.WideShapes Go.ChangeAt Go.RowKit Go.Burg
open Go.Burg.Lk
set_option maxHeartbeats 4000000 in
theorem planted_at {t sb sg kb km i:Nat} {l:List (Cel Nd)} {L:List (RefK × Wd)} {tk:Int} {c:Cel Nd} (slot gen:Int) (w:World) (h:TreeAt w t sb sg kb km l L tk) (hL:S.Live l slot gen i c) :
 Calls Tryz.prog 37 #[.pointer (some ⟨t,0,none⟩),.agg #[.int .i64 slot,.int .u32 gen]] w fun e w'=>e=.returned (.bool c.x.planted)/\Below w.heap.size w w':=by
 have hN:=z0a w (.cells #[.int .i64 slot,.int .u32 gen] 36 (0,0))
 have hA:=h.alloc (.cells #[.int .i64 slot,.int .u32 gen] 36 (0,0))
 have hB:Below w.heap.size w (w.alloc (.cells #[.int .i64 slot,.int .u32 gen] 36 (0,0))):=(Below.refl _ _).alloc (Nat.le_refl _) _
 obtain⟨is,⟨kn,cd,vl,pt,⟨ya,yn,yc⟩,⟨za,zn,zc⟩,pl,di⟩,gn⟩:=c
 generalize hW:w.alloc (.cells #[.int .i64 slot,.int .u32 gen] 36 (0,0))=W at *
 have HW:=hid hW
 have HA:=hid hA
 have HN:=hid hN
 have HB:=hid hB
 have HT:Hid (∀ w1,Below W.heap.size W w1->Calls Tryz.prog 67 #[.pointer (some ⟨sb,0,none⟩),.agg #[.int .i64 slot,.int .u32 gen]] w1 fun e w'=>e=.returned (.tuple #[.agg #[.int .i64 kn,.string cd,.string vl,.string pt,.slice ya yn yc,.slice za zn zc,.bool pl,.bool di],.bool true])/\Below w1.heap.size w1 w'):=hid (fun (w1:World) (hw1:Below W.heap.size W w1)=>S.get_live slot gen w1 (HA.out.keep hw1).hs hL)
 have c0:=cell_of HA.out.ht 0
 have n0:=cell_of HN.out 0
 have n1:=cell_of HN.out 1
 have l0:=lt_of_block HN.out
 have l1:=lt_of_block HA.out.ht
 clear hW hA hN hB h hL
 go_enter Tryz.func37,Tryz.ntmps37
 go_wp2_with fail
 rw[HW.out]
 go_region_with (go_at_call 67;refine (HT.out _ (by (repeat (first|exact Below.refl _ _|assumption|with_reducible refine Below.drew ?_|with_reducible refine below_drewN ?_|with_reducible refine Below.setCell ?_ (by first|(simp;done)|(simp;omega)) _|with_reducible refine Below.alloc ?_ (by first|exact Nat.le_refl _|(simp;done)|(simp;omega)) _)))).mono ?_;rintro e w2 ⟨rfl,hw2⟩;(try (have z:=(hw2.block W.heap.size (by simp)).trans (z0a W (.cells #[.int .i64 0,.string ⟨#[]⟩,.string ⟨#[]⟩,.string ⟨#[]⟩,.slice none 0 0,.slice none 0 0,.bool false,.bool false] 104 (0,0)));have z0:=cell_of z 0;have z1:=cell_of z 1;have z2:=cell_of z 2;have z3:=cell_of z 3;have z4:=cell_of z 4;have z5:=cell_of z 5;have z6:=cell_of z 6;have z7:=cell_of z 7;have zf:=z0e z));have HW2:Hid (Below W.heap.size W w2):=hid (z0d (by (repeat (first|exact Below.refl _ _|assumption|with_reducible refine Below.drew ?_|with_reducible refine below_drewN ?_|with_reducible refine Below.setCell ?_ (by first|(simp;done)|(simp;omega)) _|with_reducible refine Below.alloc ?_ (by first|exact Nat.le_refl _|(simp;done)|(simp;omega)) _))) hw2 (by first|exact Nat.le_refl _|(simp;done)|(simp;omega)));clear hw2)
 all_goals
  clear HT c0 n0 n1
  go_wp2
  go_ret
  refine⟨rfl,?_⟩
  have hb:=HB.out.trans (HW2.out.mono HB.out.size)
  have hs:=HB.out.size
  first
   | with_reducible exact hb.alloc hb.size _
   | ((repeat with_reducible refine Below.setCell ?_ hs _);exact hb)
end Go.Proofs.YtgdmfledhhoedaaGreatDoor.T
