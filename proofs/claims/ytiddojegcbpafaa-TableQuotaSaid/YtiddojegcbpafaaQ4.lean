/- TableQuota: what stands at the heads of its loops. -/
import Derived.Test.YtiddojegcbpafaaQ3
import Derived.Deep.CutRange
import Derived.Deep.LoopGhost
import Derived.Deep.CutBlock
namespace Go.Proofs.Ytiddojegcbpafaa.T
set_option maxRecDepth 8000
open Go.ChangeShapes Go.WideShapes Go.ChangeAt Go.RowKit Go.Burg Go.Joins
open Go.Burg.Lk
open Go.Burg.Purse (St Inv)
open Go.Burg.Quota

/-- While the gates are made: n of them stand. -/
structure L1At (w : World) (x t p m hb ga oa ka ba : Nat) (xk xb : Int) (gb : Nat → Nat) (n : Nat) (w1 : World) : Prop where
  lo : w.heap.size ≤ x ∧ x < p ∧ x < m ∧ p ≠ m
  od : p < hb ∧ m < hb ∧ hb < ga ∧ ga < oa ∧ oa < ka ∧ ka < ba
  tab : TabAt 82 w1 x t (L7 p)
  pu : PurseAt w1 p m (St.new xk xb)
  hn : w1.heap[hb]? = some (.cells #[.int .i64 7, .int .u32 1, .int .u8 7] 35 (0, 0))
  fga : Arr4 w1 ga 40 (fun i => if i < n then .iface 84 (.pointer (some ⟨gb i, 0, none⟩)) else .nilIface)
  foa : Arr4 w1 oa 41 (fun _ => .bool false)
  fka : Arr4 w1 ka 42 (fun _ => .int .i64 0)
  fba : Arr4 w1 ba 42 (fun _ => .int .i64 0)
  g : ∀ i, i < n → w1.heap[gb i]? = some (GBlk ⟨x, 7, 1, 7, dd i, none, 0, 0, 0⟩)
  gl : ∀ i, i < n → ba < gb i
  gs : ∀ i j, i < n → j < n → i ≠ j → gb i ≠ gb j
  bel : Below w.heap.size w w1
theorem L1At.step {w wr w6 : World} {x t p m hb ga oa ka ba n b : Nat} {xk xb : Int} {gb : Nat → Nat} (h : L1At w x t p m hb ga oa ka ba xk xb gb n wr) (hn : n < 4) (hB : Below wr.heap.size wr w6) (hG : w6.heap[b]? = some (GBlk ⟨x, 7, 1, 7, dd n, none, 0, 0, 0⟩)) (hb6 : wr.heap.size ≤ b) :
    L1At w x t p m hb ga oa ka ba xk xb (Quota.set gb n b) (n + 1) (w6.setCell ⟨ga, n, none⟩ (.iface 84 (.pointer (some ⟨b, 0, none⟩)))) := by
  have hM := Mod.setCell (S := (· = ga)) (p := ⟨ga, n, none⟩) (Mod.refl _ w6) (.inl rfl) (.iface 84 (.pointer (some ⟨b, 0, none⟩)))
  have lo := h.lo
  have od := h.od
  have hbl := h.fba.lt
  have k : ∀ i o, i ≠ ga → wr.heap[i]? = some o → (w6.setCell ⟨ga, n, none⟩ (.iface 84 (.pointer (some ⟨b, 0, none⟩)))).heap[i]? = some o := fun i o hi ho => (hM.block i (Nat.lt_of_lt_of_le (lt_of_block ho) hB.size) hi).trans ((hB.block i (lt_of_block ho)).trans ho)
  refine ⟨lo, od, (h.tab.keep hB).mod hM (by omega), (h.pu.keep hB).mod hM (by omega) (by omega), k _ _ (by omega) h.hn, ?_, k _ _ (by omega) h.foa, k _ _ (by omega) h.fka, k _ _ (by omega) h.fba, fun i hi => ?_, fun i hi => ?_, fun i j hi hj hij => ?_, mod_below (below_chain h.bel hB h.bel.size) hM (by intro i hi; omega) (Nat.le_trans h.bel.size hB.size)⟩
  · refine ((h.fga.same (hB.block ga h.fga.lt)).set hn _).ext fun i hi => ?_
    unfold Quota.set
    dsimp only
    by_cases hin : i = n
    · subst hin; rw [if_pos rfl, if_pos (by omega), if_pos rfl]
    · rw [if_neg hin, if_neg hin]
      by_cases hlt : i < n
      · rw [if_pos hlt, if_pos (by omega)]
      · rw [if_neg hlt, if_neg (by omega)]
  · unfold Quota.set
    by_cases hin : i = n
    · subst hin
      rw [if_pos rfl]
      exact (hM.block b (lt_of_block hG) (by omega)).trans hG
    · rw [if_neg hin]
      have := h.gl i (by omega)
      exact k _ _ (by omega) (h.g i (by omega))
  · unfold Quota.set
    split
    · omega
    · exact h.gl i (by omega)
  · have hlt : ∀ i, i < n → gb i < b := fun i hi => by have := lt_of_block (h.g i hi); omega
    unfold Quota.set
    by_cases hin : i = n
    · have := hlt j (by omega)
      rw [if_pos hin, if_neg (by omega)]; omega
    · rw [if_neg hin]
      by_cases hjn : j = n
      · have := hlt i (by omega)
        rw [if_pos hjn]; omega
      · rw [if_neg hjn]
        exact h.gs i j (by omega) (by omega) hij
/-- What stands at a round's head. -/
structure RAt (w : World) (B : Bls) (q : Qs) (w1 : World) : Prop where
  g : GAt w B q w1
  fga : Arr4 w1 B.ga 40 (fun i => .iface 84 (.pointer (some ⟨B.gb i, 0, none⟩)))
  foa : Arr4 w1 B.oa 41 (fun i => .bool (q.o i))
  fka : Arr4 w1 B.ka 42 (fun i => .int .i64 (q.k i))
  fba : Arr4 w1 B.ba 42 (fun i => .int .i64 (q.b i))
section
variable {w w1 w2 : World} {B : Bls} {q q' : Qs} {n : Nat}
theorem RAt.keep (h : RAt w B q w1) (hb : Below w1.heap.size w1 w2) : RAt w B q w2 :=
  ⟨h.g.keep hb, h.fga.same (hb.block _ h.fga.lt), h.foa.same (hb.block _ h.foa.lt), h.fka.same (hb.block _ h.fka.lt), h.fba.same (hb.block _ h.fba.lt)⟩
/-- The arrays behind a gate's deed. -/
theorem RAt.arrs (h : RAt w B q w1) (hn : n < 4) (hM : Mod (GOwn (B.gb n) B.p B.m) w1 w2) :
    Arr4 w2 B.ga 40 (fun i => .iface 84 (.pointer (some ⟨B.gb i, 0, none⟩))) ∧ Arr4 w2 B.oa 41 (fun i => .bool (q.o i)) ∧ Arr4 w2 B.ka 42 (fun i => .int .i64 (q.k i)) ∧ Arr4 w2 B.ba 42 (fun i => .int .i64 (q.b i)) :=
  ⟨h.fga.same (h.g.other hn hM (.inl rfl) h.fga.lt), h.foa.same (h.g.other hn hM (.inr (.inl rfl)) h.foa.lt), h.fka.same (h.g.other hn hM (.inr (.inr (.inl rfl))) h.fka.lt), h.fba.same (h.g.other hn hM (.inr (.inr (.inr (.inl rfl)))) h.fba.lt)⟩
/-- A gate's deed, and its flag taken down. -/
theorem RAt.shut (h : RAt w B q w1) (hn : n < 4) (hG : GAt w B q' w2) (hM : Mod (GOwn (B.gb n) B.p B.m) w1 w2) (ho : q'.o = Quota.set q.o n false) (hk : q'.k = q.k) (hb : q'.b = q.b) : RAt w B q' (w2.setCell ⟨B.oa, n, none⟩ (.bool false)) := by
  obtain ⟨a1, a2, a3, a4⟩ := h.arrs hn hM
  have o := h.g.ok
  have := o.oa; have := o.ka; have := o.ba
  have hX := Mod.setCell (S := (· = B.oa)) (p := ⟨B.oa, n, none⟩) (Mod.refl _ w2) (.inl rfl) (.bool false)
  refine ⟨hG.arr hX (.inr (.inl rfl)), a1.same (hX.block _ a1.lt (by omega)), (a2.set hn (.bool false)).ext fun i _ => ?_, ?_, ?_⟩
  · rw [ho]; unfold Quota.set; split <;> rfl
  · rw [hk]; exact a3.same (hX.block _ a3.lt (by omega))
  · rw [hb]; exact a4.same (hX.block _ a4.lt (by omega))
end
/-- While a gate is asked: what the arrays hold is told apart. -/
structure MAt (w : World) (B : Bls) (q : Qs) (o : Nat → Bool) (k b : Nat → Int) (w1 : World) : Prop where
  g : GAt w B q w1
  fga : Arr4 w1 B.ga 40 (fun i => .iface 84 (.pointer (some ⟨B.gb i, 0, none⟩)))
  foa : Arr4 w1 B.oa 41 (fun i => .bool (o i))
  fka : Arr4 w1 B.ka 42 (fun i => .int .i64 (k i))
  fba : Arr4 w1 B.ba 42 (fun i => .int .i64 (b i))
section
variable {w w1 w2 : World} {B : Bls} {q q' : Qs} {o : Nat → Bool} {k b : Nat → Int} {n : Nat}
theorem MAt.seto (h : MAt w B q o k b w1) (hn : n < 4) (v : Bool) : MAt w B q (Quota.set o n v) k b (w1.setCell ⟨B.oa, n, none⟩ (.bool v)) := by
  have o := h.g.ok
  have := o.oa; have := o.ka; have := o.ba
  have hX := Mod.setCell (S := (· = B.oa)) (p := ⟨B.oa, n, none⟩) (Mod.refl _ w1) (.inl rfl) (.bool v)
  refine ⟨h.g.arr hX (.inr (.inl rfl)), h.fga.same (hX.block _ h.fga.lt (by omega)), (h.foa.set hn (.bool v)).ext fun i _ => ?_, h.fka.same (hX.block _ h.fka.lt (by omega)), h.fba.same (hX.block _ h.fba.lt (by omega))⟩
  unfold Quota.set; split <;> rfl
theorem MAt.setk (h : MAt w B q o k b w1) (hn : n < 4) (v : Int) : MAt w B q o (Quota.set k n v) b (w1.setCell ⟨B.ka, n, none⟩ (.int .i64 v)) := by
  have o := h.g.ok
  have := o.oa; have := o.ka; have := o.ba
  have hX := Mod.setCell (S := (· = B.ka)) (p := ⟨B.ka, n, none⟩) (Mod.refl _ w1) (.inl rfl) (.int .i64 v)
  refine ⟨h.g.arr hX (.inr (.inr (.inl rfl))), h.fga.same (hX.block _ h.fga.lt (by omega)), h.foa.same (hX.block _ h.foa.lt (by omega)), (h.fka.set hn (.int .i64 v)).ext fun i _ => ?_, h.fba.same (hX.block _ h.fba.lt (by omega))⟩
  unfold Quota.set; split <;> rfl
theorem MAt.setb (h : MAt w B q o k b w1) (hn : n < 4) (v : Int) : MAt w B q o k (Quota.set b n v) (w1.setCell ⟨B.ba, n, none⟩ (.int .i64 v)) := by
  have o := h.g.ok
  have := o.oa; have := o.ka; have := o.ba
  have hX := Mod.setCell (S := (· = B.ba)) (p := ⟨B.ba, n, none⟩) (Mod.refl _ w1) (.inl rfl) (.int .i64 v)
  refine ⟨h.g.arr hX (.inr (.inr (.inr rfl))), h.fga.same (hX.block _ h.fga.lt (by omega)), h.foa.same (hX.block _ h.foa.lt (by omega)), h.fka.same (hX.block _ h.fka.lt (by omega)), (h.fba.set hn (.int .i64 v)).ext fun i _ => ?_⟩
  unfold Quota.set; split <;> rfl
theorem MAt.keep (h : MAt w B q o k b w1) (hb : Below w1.heap.size w1 w2) : MAt w B q o k b w2 :=
  ⟨h.g.keep hb, h.fga.same (hb.block _ h.fga.lt), h.foa.same (hb.block _ h.foa.lt), h.fka.same (hb.block _ h.fka.lt), h.fba.same (hb.block _ h.fba.lt)⟩
theorem MAt.gate (h : MAt w B q o k b w1) (hn : n < 4) (hG : GAt w B q' w2) (hM : Mod (GOwn (B.gb n) B.p B.m) w1 w2) : MAt w B q' o k b w2 :=
  ⟨hG, h.fga.same (h.g.other hn hM (.inl rfl) h.fga.lt), h.foa.same (h.g.other hn hM (.inr (.inl rfl)) h.foa.lt), h.fka.same (h.g.other hn hM (.inr (.inr (.inl rfl))) h.fka.lt), h.fba.same (h.g.other hn hM (.inr (.inr (.inr (.inl rfl)))) h.fba.lt)⟩
end
theorem _root_.Go.Burg.Quota.QI.bnd {xk xb : Int} {r : Nat} {q : Qs} (h : QI xk xb r q) : 0 ≤ q.s.hk ∧ q.s.hk ≤ xk ∧ 0 ≤ q.s.hb ∧ q.s.hb ≤ xb := by
  have := h.inv.hk; have := h.inv.hb; have := h.inv.fk; have := h.inv.fb; have := h.inv.kk; have := h.inv.kb; have := h.lk; have := h.lb
  omega
theorem rem4 {g : Int} (h : 0 ≤ g ∧ g ≤ 255) : ∃ n : Nat, n < 4 ∧ wrap64 (g.tmod 4) = n := by
  obtain ⟨m, rfl⟩ : ∃ m : Nat, g = m := ⟨g.toNat, by omega⟩
  refine ⟨m % 4, Nat.mod_lt _ (by omega), ?_⟩
  have : ((m : Int).tmod 4) = ((m % 4 : Nat) : Int) := rfl
  rw [this]
  unfold wrap64
  omega
theorem rem3 {g : Int} (h : 0 ≤ g ∧ g ≤ 255) : g.tmod 3 = 0 ∨ g.tmod 3 = 1 ∨ g.tmod 3 = 2 := by
  obtain ⟨m, rfl⟩ : ∃ m : Nat, g = m := ⟨g.toNat, by omega⟩
  have : ((m : Int).tmod 3) = ((m % 3 : Nat) : Int) := rfl
  rw [this]
  omega
theorem run_max0 (ts : Array TypeId) (ty : TypeId) (x : Int) (w : World) : (Builtin.max_ ts ty #[.int .i64 x, .int .i64 0]).run Try.prog w = .ok (.int .i64 (max x 0)) w := by
  have : (Builtin.max_ ts ty #[.int .i64 x, .int .i64 0]).run Try.prog w = .ok (.int .i64 (if 0 > x then 0 else x)) w := rfl
  rw [this, show (if 0 > x then 0 else x) = max x 0 by split <;> omega]
theorem RAt.start {w w1 : World} {x t p m hb ga oa ka ba : Nat} {xk xb : Int} {gb : Nat → Nat} (h : L1At w x t p m hb ga oa ka ba xk xb gb 4 w1) : RAt w ⟨x, t, p, m, ga, oa, ka, ba, gb⟩ (Qs.start xk xb) w1 := by
  have lo := h.lo
  have od := h.od
  refine ⟨⟨⟨lo.1, lo.2.1, lo.2.2.1, lo.2.2.2, ⟨by show p < ga; omega, by show m < ga; omega⟩, od.2.2.2.1, od.2.2.2.2.1, od.2.2.2.2.2, h.gl, h.gs⟩, h.tab, h.pu, h.g, h.bel⟩, h.fga.ext fun i hi => ?_, h.foa, h.fka, h.fba⟩
  dsimp only
  rw [if_pos hi]
end Go.Proofs.Ytiddojegcbpafaa.T
