/- Part 10 of 51 of a proof: lemmas on the functions that it reaches. -/
import Derived.Test.YtnngicopphiaaaaGreatDoorC02
import Derived.OwnWalkIn
import Derived.Laws.Rows
import Derived.Laws.CopyRow
import Derived.Test.YtnngicopphiaaaaGreatDoorC08
import Derived.Test.YtnngicopphiaaaaGreatDoorC09
import Derived.Test.YtnngicopphiaaaaGreatDoorC07
namespace Go.Burg
open Go Go.RowKit
theorem addr_add0 (x n j : Nat) : (⟨x, n, none⟩ : Addr).add j = ⟨x, n + j, none⟩ := by unfold Addr.add; split <;> simp_all
section
variable {P : Program} {ops : Array Oper} {o : Oper} {a : Act} {rest : List Oper} {Q : Exit → Act → World → Prop} {w : World} {F : Fence} {n : Nat}
theorem run_loadAt_cells (g k : Nat) (ty : TypeId) (cs : List Value) (d : TypeDesc) (h : ∀ j v, cs[j]? = some v → w.cell? ⟨g, k + j, none⟩ = some v)
    (hu : P.underlying ty = some d) (hd : (match d with | .struct _ | .array _ _ => true | _ => false) = true) (hi : (P.info? ty).map (·.size) = some cs.length) :
    (Instr.loadAt ty (.pointer (some ⟨g, k, none⟩))).run P w = .ok (.agg cs.toArray) w := by
  have hl : (loadCells ⟨g, k, none⟩ cs.length).run P w = .ok cs.toArray w :=
    run_loadCells_list (P := P) w ⟨g, k, none⟩ cs (fun j v hv => by rw [addr_add0]; exact h j v hv)
  cases hq : P.info? ty with
  | none => simp [hq] at hi
  | some i =>
    have hs : i.size = cs.length := by simpa [hq] using hi
    have hagg : (isAgg ty).run P w = .ok true w := by
      unfold isAgg
      rw [Sem.run_bind, run_underlying hu w]
      cases d <;> simp_all
    simp [Instr.loadAt, Instr.sureAddr, loadVar, Sem.run_bind, hagg, sizeOf, typeInfo, hq, hs, hl]
theorem run_storeAt_cells (g k : Nat) (ty t : TypeId) (cs : List Value) (cur : Array Value) (hg : w.heap[g]? = some (.cells cur t (0, 0)))
    (hi : (P.info? ty).map (·.size) = some cs.length) (hfit : k + cs.length ≤ cur.size) (h1 : ∀ v ∈ cs, v.oneCell' = true) :
    (Instr.storeAt ty (.pointer (some ⟨g, k, none⟩)) (.agg cs.toArray)).run P w = .ok () (w.setRow g (cur.toList.take k ++ cs ++ cur.toList.drop (k + cs.length)).toArray) := by
  have hst := run_storeCells_at P g k t cs 0 cur w hg (by simpa using hfit) h1
  cases hq : P.info? ty with
  | none => simp [hq] at hi
  | some i =>
    have hs : i.size = cs.length := by simpa [hq] using hi
    simp [Instr.storeAt, Instr.sureAddr, storeVar, Sem.run_bind, sizeOf, typeInfo, hq, hs, Value.cells, hst]
theorem run_storeAt_new (ty t : TypeId) (cs : List Value) (cur : Array Value) (hi : (P.info? ty).map (·.size) = some cs.length) (hs : cur.size = cs.length) (h1 : ∀ v ∈ cs, v.oneCell' = true) :
    (Instr.storeAt ty (.pointer (some ⟨w.heap.size, 0, none⟩)) (.agg cs.toArray)).run P (w.alloc (.cells cur t (0, 0))) = .ok () (w.alloc (.cells cs.toArray t (0, 0))) := by
  rw [run_storeAt_cells w.heap.size 0 ty t cs cur (heap_new w _) hi (by omega) h1]
  congr 1
  have e : (cur.toList.take 0 ++ cs ++ cur.toList.drop (0 + cs.length)) = cs := by simp [← hs]
  rw [e]
  unfold World.setRow World.alloc
  congr 1
  apply Array.ext_getElem?
  intro i
  simp only [Array.getElem?_modify, Array.getElem?_push]
  by_cases hk : i = w.heap.size
  · subst hk; simp
  · simp [hk, Ne.symm hk]
theorem wpList_load_run (hg : o.guard = none) (T : TypeId) (x : Operand) (hop : o.op = .load T x) (p v : Value) (hx : a.eval x = p) (hrun : (Instr.loadAt T p).run P w = .ok v w)
    (hK : wpList P ops Q rest (a.put o.dst v) w) : wpList P ops Q (o :: rest) a w := by
  refine wpList_plain hg fun K' hK' => ?_
  unfold Oper.wp
  simp [execOp, hop, hx, hrun, Result.andThen]
  exact hK' _ _ hK
theorem wpListIn_load_run (hg : o.guard = none) (T : TypeId) (x : Operand) (hop : o.op = .load T x) (p v : Value) (hx : a.eval x = p) (hrun : (Instr.loadAt T p).run P w = .ok v w)
    (hK : wpListIn F n P ops Q rest (a.put o.dst v) w) : wpListIn F n P ops Q (o :: rest) a w := by
  refine wpListIn_plain hg fun K' hK' => ?_
  unfold Oper.wpIn
  refine ⟨?_, ?_⟩
  · simp [Oper.about, hop]
  · rw [Oper.semAt_plain F _ _ (by rw [hop]; intro c hc'; cases hc')]
    simp [execOp, hop, hx, hrun, Result.andThen]
    exact hK' _ _ hK
theorem wpList_build_run (hg : o.guard = none) (T : TypeId) (parts : Array (Nat × Operand)) (hop : o.op = .build T parts) (ps : Array (Nat × Value)) (v : Value) (hx : (parts.map fun (i, x) => (i, a.eval x)) = ps) (hrun : (Instr.build T ps).run P w = .ok v w)
    (hK : wpList P ops Q rest (a.put o.dst v) w) : wpList P ops Q (o :: rest) a w := by
  refine wpList_plain hg fun K' hK' => ?_
  unfold Oper.wp
  subst hx
  simp only [execOp, hop, Sem.run_bind, hrun, Result.andThen, Sem.run_pure]
  exact hK' _ _ hK
theorem wpListIn_store_run (hg : o.guard = none) (T : TypeId) (x y : Operand) (hop : o.op = .store T x y) (p v : Value) (w' : World) (hx : a.eval x = p) (hy : a.eval y = v) (hrun : (Instr.storeAt T p v).run P w = .ok () w')
    (hK : wpListIn F n P ops Q rest (a.put o.dst undef) w') : wpListIn F n P ops Q (o :: rest) a w := by
  refine wpListIn_plain hg fun K' hK' => ?_
  unfold Oper.wpIn
  refine ⟨?_, ?_⟩
  · simp [Oper.about, hop]
  · rw [Oper.semAt_plain F _ _ (by rw [hop]; intro c hc'; cases hc')]
    simp [execOp, hop, hx, hy, hrun, Result.andThen]
    exact hK' _ _ hK
end
end Go.Burg

namespace Go.Burg
open Go Go.RowKit
def Row49 (F : Fw) : List Value := fwB F ++ fwR F ++ [.int .i64 F.n]
theorem row49_len (F : Fw) : (Row49 F).length = 49 := rfl
theorem row49_get (F : Fw) {k : Nat} (hk : k < 49) : (Row49 F)[k]? = some (fwCell F k) := by
  rw [← fwRow_get F (by omega : k < 50)]
  show (fwB F ++ fwR F ++ [.int .i64 F.n])[k]? = (fwB F ++ fwR F ++ ([.int .i64 F.n] ++ [.int .i64 F.room]))[k]?
  rw [← List.append_assoc]
  exact (List.getElem?_append_left (by have := row49_len F; unfold Row49 at this; omega)).symm
theorem row49_one (F : Fw) : ∀ v ∈ Row49 F, v.oneCell' = true := by
  intro v hv
  obtain ⟨k, hk, rfl⟩ := List.getElem_of_mem hv
  have h := row49_get F (k := k) hk
  rw [List.getElem?_eq_getElem hk] at h
  rw [Option.some.inj h]
  unfold fwCell
  (repeat' split) <;> rfl
structure NowAt (T : TypeId) (w : World) (c : Nat) (F : Fw) : Prop where
  h : w.heap[c]? = some (.cells (Row49 F).toArray T (0, 0))
theorem NowAt.cell {T : TypeId} {w : World} {c : Nat} {F : Fw} (h : NowAt T w c F) {k : Nat} (hk : k < 49) : w.cell? ⟨c, k, none⟩ = some (fwCell F k) := by
  rw [cell_of h.h, List.getElem?_toArray, row49_get F hk]
theorem NowAt.byte {T : TypeId} {w : World} {c : Nat} {F : Fw} (h : NowAt T w c F) {i : Nat} (hi : i < 16) : w.cell? ⟨c, i, none⟩ = some (.int .u8 (F.b i)) := by
  rw [h.cell (by omega)]; simp [fwCell, hi]
theorem NowAt.ref {T : TypeId} {w : World} {c : Nat} {F : Fw} (h : NowAt T w c F) {i : Nat} (hi : i < 16) : w.cell? ⟨c, 16 + i * 2, none⟩ = some (.int .i64 (F.s i)) ∧ w.cell? ⟨c, 16 + i * 2 + 1, none⟩ = some (.int .u32 (F.g i)) := by
  have e1 : ¬ (16 + i * 2 < 16) := by omega
  have e2 : 16 + i * 2 < 48 := by omega
  have e3 : (16 + i * 2) % 2 = 0 := by omega
  have e4 : (16 + i * 2 - 16) / 2 = i := by omega
  have f1 : ¬ (16 + i * 2 + 1 < 16) := by omega
  have f2 : 16 + i * 2 + 1 < 48 := by omega
  have f3 : ¬ ((16 + i * 2 + 1) % 2 = 0) := by omega
  have f4 : (16 + i * 2 + 1 - 16) / 2 = i := by omega
  refine ⟨?_, ?_⟩
  · rw [h.cell (by omega)]; simp only [fwCell, if_neg e1, if_pos e2, if_pos e3, e4]
  · rw [h.cell (by omega)]; simp only [fwCell, if_neg f1, if_pos f2, if_neg f3, f4]
theorem NowAt.num {T : TypeId} {w : World} {c : Nat} {F : Fw} (h : NowAt T w c F) : w.cell? ⟨c, 48, none⟩ = some (.int .i64 F.n) := by
  rw [h.cell (by omega)]; simp [fwCell]
theorem NowAt.lt {T : TypeId} {w : World} {c : Nat} {F : Fw} (h : NowAt T w c F) : c < w.heap.size := lt_of_block h.h
end Go.Burg
namespace Go.Burg
open Go Go.RowKit
theorem blk_below' {w w1 : World} {B b : Nat} {o : Obj} (h : w.heap[b]? = some o) (hb : Below B w w1) (hB : b < B) : w1.heap[b]? = some o := (hb.block b hB).trans h
end Go.Burg
namespace Go.Proofs.YtnngicopphiaaaaGreatDoor.F
set_option maxRecDepth 8000
open Go.ChangeShapes Go.WideShapes Go.ChangeAt Go.RowKit Go.Burg Go.Shelf
attribute [local go_sem] Oper.semAt_some
def encK (k : Kd) : Array Value := #[.int .u8 k.b, .agg #[.int .i64 k.s, .int .u32 k.g]]
theorem all_at {x : Nat} (w : World) :
    Calls Tryz.prog 166 #[.pointer (some ⟨x, 0, none⟩)] w fun e w' => e = .returned (.func (.func 173) #[] #[.pointer (some ⟨w.heap.size, 0, none⟩)]) ∧ w' = w.alloc (.cells #[.pointer (some ⟨x, 0, none⟩)] 195 (0, 0)) := by
  have hmf : ∀ (fn : Fn) (first cap : Array Value) (w : World), (Instr.makeFunc fn first cap).run Tryz.prog w = .ok (.func fn first cap) w := fun _ _ _ _ => rfl
  go_enter Tryz.func166, Tryz.ntmps166
  go_wp2_with fail
  go_ret
  exact ⟨rfl, rfl⟩
set_option maxRecDepth 100000 in
set_option maxHeartbeats 4000000 in
theorem all_own (B x r : Nat) (L : List Kd) (w0 : World) (hB : w0.heap[B]? = some (.cells #[.pointer (some ⟨x, 0, none⟩)] 195 (0, 0))) (hS : FewL 212 w0 x L r) :
    SeqOwn Tryz.prog 173 #[.pointer (some ⟨B, 0, none⟩)] encK w0.heap.size (fun xs => xs = L) (fun pre => pre <+: L) L.length w0 := by
  intro Mine hMine LL J Jx W hW hml hJ hJx hY h0
  have hlB := lt_of_block hB
  have hsz := hW.size
  obtain ⟨F, hF, rfl, hr, h1, h2, h3⟩ := FewL.facts hS
  have hF1 := hF.same (hW.block x hF.lt)
  have b0 := cell_of ((hW.block B hlB).trans hB) 0
  have HTH := hid (there_at W hF1 h1)
  have HY := hid hY
  have HW := hid hW
  clear hY hW
  refine (callsIn_wide (n := 8)).1 ?_
  refine callsIn_of_wp Tryz.func173 rfl trivial ?_ rfl
  simp only [Tryz.ntmps173, List.size_toArray, List.length_cons, List.length_nil, Nat.reduceAdd, Nat.reduceSub, Array.replicate_succ, Array.replicate_zero, List.push_toArray, List.append_toArray, List.nil_append, List.cons_append]
  gi_wp2_with fail
  refine ⟨trivial, ?_⟩
  refine ((callsIn_wide (n := 7)).2 HTH.out).mono ?_
  rintro e w1 ⟨rfl, rfl⟩
  have hLD : (Instr.loadAt 210 (.pointer (some ⟨x, 0, none⟩))).run Tryz.prog W = .ok (.agg (Row49 F).toArray) W := run_loadAt_cells x 0 210 (Row49 F) _ (fun j v hj => by
    have hj2 : j < 49 := (List.getElem?_eq_some_iff.1 hj).1
    rw [Nat.zero_add, cell_of hF1, List.getElem?_toArray, fwRow_get F (by omega), ← row49_get F hj2]
    exact hj) Tryz.underlying210 rfl (by kernel_rfl)
  have hST : ∀ cur : Array Value, cur.size = 49 → (Instr.storeAt 210 (.pointer (some ⟨W.heap.size, 0, none⟩)) (.agg (Row49 F).toArray)).run Tryz.prog (W.alloc (.cells cur 210 (0, 0))) = .ok () (W.alloc (.cells (Row49 F).toArray 210 (0, 0))) := fun cur hc =>
    run_storeAt_new 210 210 (Row49 F) cur (by kernel_rfl) hc (row49_one F)
  have hNow : NowAt 210 (W.alloc (.cells (Row49 F).toArray 210 (0, 0))) W.heap.size F := ⟨heap_new _ _⟩
  generalize (Row49 F).toArray = rv at hLD hST hNow
  have HLD := hid hLD
  have HST := hid hST
  have c48 := hNow.num
  have HNow := hid hNow
  clear hLD hST hNow
  gi_wp2_with (first | (refine wpListIn_load_run rfl 210 _ rfl _ _ rfl HLD.out ?_) | (refine wpListIn_store_run rfl 210 _ _ rfl _ _ _ rfl rfl (HST.out _ rfl) ?_))
  have hJ1 := own_below hJ h0 ((Below.refl _ _).alloc (Nat.le_refl _) (.cells rv 210 (0, 0)))
  have hc0 : w0.heap.size ≤ W.heap.size := hsz
  have hnm : ¬ Mine (W.alloc (.cells rv 210 (0, 0))) W.heap.size := hMine.priv hsz (fun h => absurd (hml _ h) (Nat.lt_irrefl _)) ((Below.refl _ _).alloc (Nat.le_refl _) _)
  clear hml
  have hwn : W.heap.size ≤ (W.alloc (.cells rv 210 (0, 0))).heap.size := by simp
  generalize W.alloc (.cells rv 210 (0, 0)) = Wn at *
  generalize W.heap.size = c at *
  clear HLD HST b0 h0 HTH hF1 c48
  gi_loopw [14] (fun iv wr => ∃ k : Nat, k ≤ F.n ∧ iv = .int .i64 k ∧ J (F.list.take k) wr ∧ NowAt 210 wr c F ∧ ¬ Mine wr c) (fun iv _ => F.n - (intOf iv).toNat)
  case atStart => exact ⟨0, Nat.zero_le _, rfl, hJ1, HNow.out, hnm⟩
  case round =>
    clear hJ1 HNow hnm hwn
    obtain ⟨k, hk, rfl, hJs, hN, hnm⟩ := hrel
    by_cases hlt : k < F.n
    · have hk16 : k < 16 := by omega
      have hd2 : decide (16 ≤ k) = false := by simp; omega
      have HN := hid hN
      have HJS := hid hJs
      have HK := hid hk16
      have HNM := hid hnm
      clear hN hJs hnm
      gi_wp2_with fail
      refine rgn_seq (fok_wide _) (by kernel_rfl) 9 (fun w1 => Below (wr).heap.size (wr) w1) (by kernel_rfl) (by kernel_rfl) (by kernel_rfl) ⟨rfl, rfl, rfl, Nat.le_refl _, fun _ _ => rfl⟩ ?_
      dsimp only [List.take]
      iterate 9
        refine Seq.cons (a' := ?_) ?_ ?_ ?_
        rotate_left
        ·
          intro w1 hw1
          have hn := HN.out.h; have hN1 : NowAt 210 w1 c F := ⟨blk_below' hn hw1 (lt_of_block hn)⟩; have q0 := hN1.byte HK.out; have q1 := (hN1.ref HK.out).1; have q2 := (hN1.ref HK.out).2; clear hn hN1
          go_wp2_with (fail)
          refine ⟨?_, by first | assumption | (simpa using below_chain hw1 hb hw1.size)⟩
          exact rfl
        · kernel_rfl
      refine SeqI.nil ?_
      intro _ w1 _ hw1
      dsimp only [List.drop]
      have hJ1 := own_below hJ HJS.out hw1
      have hN1 : NowAt 210 w1 c F := ⟨blk_below' HN.out.h hw1 HN.out.lt⟩
      have HNM1 := hid (hMine.priv (by have := HN.out.lt; omega) HNM.out hw1)
      have HN1 := hid hN1
      have HJ1 := hid hJ1
      clear hJ1 hN1 HN HJS hw1 HNM
      obtain ⟨fn, tmps, assign, body, hy, hR⟩ := HY.out _ (F.kd k) _ 7 HJ1.out (by rw [List.length_take, F.list_len]; omega)
      unfold encK Fw.kd at hy
      dsimp only at hy
      have HRR := hid hR
      clear hR
      gi_wp2_with fail
      refine HRR.out.mono ?_
      have hU : F.list.take k ++ [F.kd k] = F.list.take (k + 1) := by rw [List.take_add_one, F.list_get hlt]; rfl
      rintro e W3 (⟨rfl, hJ3, hk3, _⟩ | ⟨rfl, hJx3, _⟩)
      · have HJ3 := hid hJ3
        have HN3 : Hid (NowAt 210 W3 c F) := hid ⟨hk3.cells c _ hc0 HNM1.out HN1.out.h rfl⟩
        have HNM3 := hid (hk3.priv HNM1.out HN1.out.lt)
        clear hJ3 hk3 HRR HN1 HJ1
        gi_wp2_with fail
        go_roundw
        case rel => exact ⟨k + 1, by omega, by go_num, by rw [← hU]; exact HJ3.out, HN3.out, HNM3.out⟩
        case measure => simp [intOf]; omega
      · have HJ3 := hid hJx3
        clear hJx3 HRR HN1 HJ1
        gi_wp2_with fail
        refine bodyPost_ret (results_none rfl _ _ _) rfl ?_
        exact ⟨⟨_, rfl⟩, .inr ⟨_, by rw [hU]; exact List.take_prefix _ _, HJ3.out⟩⟩
    · obtain rfl : k = F.n := by omega
      clear hlt HY
      gi_wp2_with fail
      go_end0
      refine ⟨⟨_, rfl⟩, .inl ⟨_, rfl, ?_⟩⟩
      rw [← F.list_len, List.take_length] at hJs
      exact hJs
end Go.Proofs.YtnngicopphiaaaaGreatDoor.F

namespace Go.Burg
open Go Go.RowKit
def RowIn (E : TypeId) (w : World) (g : Nat) (news : List Value) : Prop := ∃ cs, w.heap[g]? = some (.cells cs E (0, 0)) ∧ ∀ j, j < news.length → cs[j]? = news[j]?
theorem RowIn.same {E : TypeId} {w w' : World} {g : Nat} {news : List Value} (h : RowIn E w g news) (e : w'.heap[g]? = w.heap[g]?) : RowIn E w' g news := by
  obtain ⟨cs, h1, h2⟩ := h
  exact ⟨cs, e.trans h1, h2⟩
theorem RowIn.lt {E : TypeId} {w : World} {g : Nat} {news : List Value} (h : RowIn E w g news) : g < w.heap.size := by
  obtain ⟨cs, h1, _⟩ := h
  exact lt_of_block h1
theorem RowIn.keep {E : TypeId} {w w' : World} {g : Nat} {news : List Value} (h : RowIn E w g news) (k : Below w.heap.size w w') : RowIn E w' g news := h.same (k.block _ h.lt)
theorem RowIn.cell {E : TypeId} {w : World} {g : Nat} {news : List Value} (h : RowIn E w g news) {j : Nat} {u : Value} (hj : news[j]? = some u) : w.cell? ⟨g, j, none⟩ = some u := by
  obtain ⟨cs, h1, h2⟩ := h
  rw [cell_of h1, h2 j (List.getElem?_eq_some_iff.1 hj).1, hj]
theorem rowIn_own {E : TypeId} {w : World} {base s n : Nat} {v : Value} {news : List Value} (h : w.ownsRow base E s v n news) (hp : 1 ≤ n) :
    ∃ g cap, v = .slice (some ⟨g, 0, none⟩) n cap ∧ base ≤ g ∧ n ≤ cap ∧ RowIn E w g news := by
  obtain ⟨hl, h⟩ := h
  rcases h with ⟨_, h⟩ | ⟨g, cap, cur, hv, hb, hh, h1, _, h3, h4⟩
  · omega
  · refine ⟨g, cap, hv, hb, h1, ⟨cur, hh, fun j hj => ?_⟩⟩
    rw [← h4, List.getElem?_take_of_lt (by omega), Array.getElem?_toList]
end Go.Burg
namespace Go.Proofs.YtnngicopphiaaaaGreatDoor.M
set_option maxRecDepth 8000
open Go.ChangeShapes Go.WideShapes Go.ChangeAt Go.RowKit Go.Burg
set_option maxRecDepth 20000 in
theorem rclone {g m cp : Nat} (news : List Value) (w : World) (h : RowIn 30 w g news) (hl : news.length = m * 2) (hone : ∀ u ∈ news, u.oneCell' = true) (h1 : 1 ≤ m) (h2 : m ≤ 4096) : Calls Tryz.prog 50 #[.slice (some ⟨g, 0, none⟩) m cp] w fun e w' => ∃ g' cap, e = .returned (.slice (some ⟨g', 0, none⟩) m cap) ∧ w.heap.size ≤ g' ∧ m ≤ cap ∧ RowIn 30 w' g' news ∧ Below w.heap.size w w' := by
  obtain ⟨i, hi, hz, hs, hby⟩ := info_parts (P := Tryz.prog) (e := 30) (z := .agg #[.int .i64 0, .int .u32 0]) (size := 2) (bytes := 16) (by kernel_rfl)
  have HI := hid hi
  have HZ := hid hz
  have HS := hid hs
  have HY := hid hby
  have hgl := h.lt
  have hN := heap_new w (.cells #[] 30 (0, 0))
  have HO : Hid ((w.alloc (.cells #[] 30 (0, 0))).ownsRow w.heap.size 30 2 (.slice (some ⟨w.heap.size, 0, none⟩) 0 0) 0 []) := hid ⟨rfl, .inr ⟨w.heap.size, 0, #[], rfl, Nat.le_refl _, hN, Nat.le_refl _, Nat.zero_le _, rfl, rfl⟩⟩
  have hnews : ∀ j u, news[j]? = some u → (w.alloc (.cells #[] 30 (0, 0))).cell? ((⟨g, 0, none⟩ : Addr).add j) = some u := by
    intro j u hj
    have key : (⟨g, 0, none⟩ : Addr).add j = ⟨g, j, none⟩ := by unfold Addr.add; split <;> simp_all
    rw [key]
    exact (h.same (w' := w.alloc (.cells #[] 30 (0, 0))) (Below.heap_alloc _ _ _ hgl)).cell hj
  have HW := hid hnews
  have HL := hid hl
  have HONE := hid hone
  clear hi hz hs hby hnews hN h hl hone
  have heq : ∀ (w : World), (binOp BinOp.eql 43 (.slice (some ⟨g, 0, none⟩) m cp) (.slice none 0 0)).run Tryz.prog w = .ok (.bool false) w := fun _ => rfl
  go_enter Tryz.func50, Tryz.ntmps50
  go_wp2_with (at_builtin; go_loud (refine wpList_append_own _ rfl (.tmp 5) (.tmp 6) 43 rfl w.heap.size 30 i _ 2 16 Tryz.underlying43 HI.out HZ.out HS.out HY.out rfl (by decide) (.slice (some ⟨w.heap.size, 0, none⟩) 0 0) 0 [] rfl HO.out ⟨g, 0, none⟩ m cp news rfl HL.out HW.out HONE.out (by simp [maxLen]; omega) (by omega) (by simp) ?_))
  intro v2 w2 hO2 hgr _
  obtain ⟨g', cap, rfl, hb', hcap, hC⟩ := rowIn_own hO2 h1
  go_wp2
  go_ret
  refine ⟨g', cap, ?_, hb', hcap, hC, ?_⟩
  · first | rfl | simp
  exact ⟨hgr.os, hgr.tape, hgr.output, Nat.le_trans (by simp) hgr.size, fun k hk => (hgr.block k (by simp; omega) (by simp [Value.ownBlock]; omega)).trans (Below.heap_alloc _ _ _ hk)⟩
set_option maxRecDepth 20000 in
theorem bclone {g m cp : Nat} (news : List Value) (w : World) (h : RowIn 4 w g news) (hl : news.length = m * 1) (hone : ∀ u ∈ news, u.oneCell' = true) (h1 : 1 ≤ m) (h2 : m ≤ 4096) : Calls Tryz.prog 196 #[.slice (some ⟨g, 0, none⟩) m cp] w fun e w' => ∃ g' cap, e = .returned (.slice (some ⟨g', 0, none⟩) m cap) ∧ w.heap.size ≤ g' ∧ m ≤ cap ∧ RowIn 4 w' g' news ∧ Below w.heap.size w w' := by
  obtain ⟨i, hi, hz, hs, hby⟩ := info_parts (P := Tryz.prog) (e := 4) (z := .bool false) (size := 1) (bytes := 1) (by kernel_rfl)
  have HI := hid hi
  have HZ := hid hz
  have HS := hid hs
  have HY := hid hby
  have hgl := h.lt
  have hN := heap_new w (.cells #[] 4 (0, 0))
  have HO : Hid ((w.alloc (.cells #[] 4 (0, 0))).ownsRow w.heap.size 4 1 (.slice (some ⟨w.heap.size, 0, none⟩) 0 0) 0 []) := hid ⟨rfl, .inr ⟨w.heap.size, 0, #[], rfl, Nat.le_refl _, hN, Nat.le_refl _, Nat.zero_le _, rfl, rfl⟩⟩
  have hnews : ∀ j u, news[j]? = some u → (w.alloc (.cells #[] 4 (0, 0))).cell? ((⟨g, 0, none⟩ : Addr).add j) = some u := by
    intro j u hj
    have key : (⟨g, 0, none⟩ : Addr).add j = ⟨g, j, none⟩ := by unfold Addr.add; split <;> simp_all
    rw [key]
    exact (h.same (w' := w.alloc (.cells #[] 4 (0, 0))) (Below.heap_alloc _ _ _ hgl)).cell hj
  have HW := hid hnews
  have HL := hid hl
  have HONE := hid hone
  clear hi hz hs hby hnews hN h hl hone
  have heq : ∀ (w : World), (binOp BinOp.eql 213 (.slice (some ⟨g, 0, none⟩) m cp) (.slice none 0 0)).run Tryz.prog w = .ok (.bool false) w := fun _ => rfl
  go_enter Tryz.func196, Tryz.ntmps196
  go_wp2_with (at_builtin; go_loud (refine wpList_append_own _ rfl (.tmp 5) (.tmp 6) 213 rfl w.heap.size 4 i _ 1 1 Tryz.underlying213 HI.out HZ.out HS.out HY.out rfl (by decide) (.slice (some ⟨w.heap.size, 0, none⟩) 0 0) 0 [] rfl HO.out ⟨g, 0, none⟩ m cp news rfl HL.out HW.out HONE.out (by simp [maxLen]; omega) (by omega) (by simp) ?_))
  intro v2 w2 hO2 hgr _
  obtain ⟨g', cap, rfl, hb', hcap, hC⟩ := rowIn_own hO2 h1
  go_wp2
  go_ret
  refine ⟨g', cap, ?_, hb', hcap, hC, ?_⟩
  · first | rfl | simp
  exact ⟨hgr.os, hgr.tape, hgr.output, Nat.le_trans (by simp) hgr.size, fun k hk => (hgr.block k (by simp; omega) (by simp [Value.ownBlock]; omega)).trans (Below.heap_alloc _ _ _ hk)⟩
structure CopyAt (w : World) (x gr r : Nat) (M : Mw) : Prop where
  hx : ∃ cs, w.heap[x]? = some (.cells cs 219 (0, 0)) ∧ (∀ b, b < 256 → cs[b]? = some (.int .u16 (M.at' b))) ∧ ∃ cap, cs[256]? = some (.slice (some ⟨gr, 0, none⟩) r cap)
  hr : ∃ cs, w.heap[gr]? = some (.cells cs 30 (0, 0)) ∧ ∀ p, p < r → cs[p * 2]? = some (.int .i64 (M.s p)) ∧ cs[p * 2 + 1]? = some (.int .u32 (M.g p))
  r2 : r ≤ 256
  at_le : ∀ b, b < 256 → M.at' b ≤ r
theorem CopyAt.cells {n₀ : Nat} {w w' : World} {x gr r : Nat} {M : Mw} (h : CopyAt w x gr r M) (k : ∀ (i : Nat) (o : Obj), n₀ ≤ i → w.heap[i]? = some o → o.isCells = true → w'.heap[i]? = some o) (h1 : n₀ ≤ x) (h2 : n₀ ≤ gr) : CopyAt w' x gr r M :=
  ⟨by obtain ⟨c, a, b⟩ := h.hx; exact ⟨c, k x _ h1 a rfl, b⟩, by obtain ⟨c, a, b⟩ := h.hr; exact ⟨c, k gr _ h2 a rfl, b⟩, h.r2, h.at_le⟩
theorem CopyAt.turned {w w' : World} {x gr r : Nat} {M : Mw} (h : CopyAt w x gr r M) (k1 : ∀ o : Obj, w.heap[x]? = some o → o.isCells = true → w'.heap[x]? = some o) (k2 : ∀ o : Obj, w.heap[gr]? = some o → o.isCells = true → w'.heap[gr]? = some o) : CopyAt w' x gr r M :=
  ⟨by obtain ⟨c, a, b⟩ := h.hx; exact ⟨c, k1 _ a rfl, b⟩, by obtain ⟨c, a, b⟩ := h.hr; exact ⟨c, k2 _ a rfl, b⟩, h.r2, h.at_le⟩
theorem CopyAt.lt {w : World} {x gr r : Nat} {M : Mw} (h : CopyAt w x gr r M) : x < w.heap.size ∧ gr < w.heap.size := by
  obtain ⟨_, a, _⟩ := h.hx
  obtain ⟨_, b, _⟩ := h.hr
  exact ⟨lt_of_block a, lt_of_block b⟩
theorem CopyAt.keep {w w' : World} {x gr r : Nat} {M : Mw} (h : CopyAt w x gr r M) (k : Below w.heap.size w w') : CopyAt w' x gr r M :=
  ⟨by obtain ⟨c, a, b⟩ := h.hx; exact ⟨c, (k.block _ h.lt.1).trans a, b⟩, by obtain ⟨c, a, b⟩ := h.hr; exact ⟨c, (k.block _ h.lt.2).trans a, b⟩, h.r2, h.at_le⟩
theorem has_c {w : World} {x gr r : Nat} {M : Mw} (b : Nat) (hb : b < 256) (h : CopyAt w x gr r M) : Calls Tryz.prog 191 #[.pointer (some ⟨x, 0, none⟩), .int .i64 b] w fun e w' => e = .returned (.bool (decide (0 < M.at' b))) ∧ w = w' := by
  obtain ⟨c, a1, a2, _⟩ := h.hx
  have c1 := (cell_of a1 b).trans (a2 b hb)
  have hd : decide ((256 : Int) ≤ (b : Int)) = false := by simp; omega
  have hd2 : decide (256 ≤ b) = false := by simp; omega
  clear h a1 a2
  go_enter Tryz.func191, Tryz.ntmps191
  go_wp2
  go_ret
  exact ⟨by simp, rfl⟩
theorem ref_c {w : World} {x gr r : Nat} {M : Mw} (b p : Nat) (hb : b < 256) (h : CopyAt w x gr r M) (hp : M.at' b = p + 1) : Calls Tryz.prog 192 #[.pointer (some ⟨x, 0, none⟩), .int .i64 b] w fun e w' => e = .returned (.pointer (some ⟨gr, p * 2, none⟩)) ∧ Below w.heap.size w w' := by
  obtain ⟨c, a1, a2, cap, a3⟩ := h.hx
  have c1 := (cell_of a1 b).trans (a2 b hb)
  have c2 := (cell_of a1 256).trans a3
  rw [hp] at c1
  have hpr : p < r := by have := h.at_le b hb; omega
  have hr := h.r2
  have hd2 : decide (256 ≤ b) = false := by simp; omega
  have hd3 : decide (r ≤ p) = false := by simp; omega
  clear h hp a1 a2 a3
  go_enter Tryz.func192, Tryz.ntmps192
  go_wp2_with fail
  go_quiet (fail)
  go_wp2
  go_ret
  exact ⟨rfl, ⟨rfl, rfl, rfl, Nat.le_refl _, fun _ _ => rfl⟩⟩
theorem CopyAt.ref {w : World} {x gr r : Nat} {M : Mw} (h : CopyAt w x gr r M) {p : Nat} (hp : p < r) : w.cell? ⟨gr, p * 2, none⟩ = some (.int .i64 (M.s p)) ∧ w.cell? ⟨gr, p * 2 + 1, none⟩ = some (.int .u32 (M.g p)) := by
  obtain ⟨c, a1, a2⟩ := h.hr
  exact ⟨(cell_of a1 _).trans (a2 p hp).1, (cell_of a1 _).trans (a2 p hp).2⟩
end Go.Proofs.YtnngicopphiaaaaGreatDoor.M

namespace Go.Proofs.YtnngicopphiaaaaGreatDoor.M
set_option maxRecDepth 20000
open Go.RowKit Go.Burg
def atL (M : Mw) : List Value := (List.range 256).map fun b => .int .u16 (M.at' b)
theorem build_one (M : Mw) (g1 g2 r c1 c2 : Nat) (w : World) : (Instr.build 217 #[(0, .agg (atL M).toArray), (1, Value.slice (some ⟨g1, 0, none⟩) r c1), (2, Value.slice (some ⟨g2, 0, none⟩) r c2)]).run Tryz.prog w = .ok (.agg ((atL M).toArray.toList ++ [Value.slice (some ⟨g1, 0, none⟩) r c1, Value.slice (some ⟨g2, 0, none⟩) r c2]).toArray) w := by kernel_rfl
theorem build_two (M : Mw) (g1 g2 r c1 c2 : Nat) (w : World) : (Instr.build 219 #[(0, .agg (atL M ++ [Value.slice (some ⟨g1, 0, none⟩) r c1, Value.slice (some ⟨g2, 0, none⟩) r c2]).toArray)]).run Tryz.prog w = .ok (.agg (atL M ++ [Value.slice (some ⟨g1, 0, none⟩) r c1, Value.slice (some ⟨g2, 0, none⟩) r c2]).toArray) w := by kernel_rfl
end Go.Proofs.YtnngicopphiaaaaGreatDoor.M
