/- TableQuota: gates in memory, told by the plain law. -/
import Derived.Test.YtiddojegcbpafaaQ2
namespace Go.Proofs.Ytiddojegcbpafaa.T
set_option maxRecDepth 8000
open Go.ChangeShapes Go.WideShapes Go.ChangeAt Go.RowKit Go.Burg Go.Joins
open Go.Burg.Purse (St Inv)
open Go.Burg.Quota

/-- The tenants: number 7 alone. -/
def L7 (p : Nat) : Nat → Ten := upd (fun _ => Ten.zero) 7 ⟨1, 0, 1, some p⟩
/-- The gates' deeds. -/
def dd (i : Nat) : Int := [2, 4, 3, 2].getD i 2
theorem may7 (p i : Nat) (hi : i < 4) : mayI (L7 p) 7 1 7 (dd i) = 0 := by
  rcases (by omega : i = 0 ∨ i = 1 ∨ i = 2 ∨ i = 3) with rfl | rfl | rfl | rfl <;> kernel_rfl

structure Bls where
  x : Nat
  t : Nat
  p : Nat
  m : Nat
  ga : Nat
  oa : Nat
  ka : Nat
  ba : Nat
  gb : Nat → Nat
structure Bls.Ok (lo : Nat) (B : Bls) : Prop where
  x : lo ≤ B.x
  p : B.x < B.p
  m : B.x < B.m
  pm : B.p ≠ B.m
  ga : B.p < B.ga ∧ B.m < B.ga
  oa : B.ga < B.oa
  ka : B.oa < B.ka
  ba : B.ka < B.ba
  gb : ∀ i, i < 4 → B.ba < B.gb i
  gs : ∀ i j, i < 4 → j < 4 → i ≠ j → B.gb i ≠ B.gb j

/-- Gate i, as the plain law has it. -/
def gt (B : Bls) (q : Qs) (i : Nat) : Gt := ⟨B.x, 7, 1, 7, dd i, if q.o i then some B.p else none, q.t i, q.u i, q.v i⟩
structure GAt (w : World) (B : Bls) (q : Qs) (w1 : World) : Prop where
  ok : B.Ok w.heap.size
  tab : TabAt 82 w1 B.x B.t (L7 B.p)
  pu : PurseAt w1 B.p B.m q.s
  g : ∀ i, i < 4 → w1.heap[B.gb i]? = some (GBlk (gt B q i))
  bel : Below w.heap.size w w1

section
variable {w w1 w2 : World} {B : Bls} {q q' : Qs} {n : Nat}
theorem GAt.keep (h : GAt w B q w1) (hb : Below w1.heap.size w1 w2) : GAt w B q w2 :=
  ⟨h.ok, h.tab.keep hb, h.pu.keep hb, fun i hi => blk_below (h.g i hi) hb (lt_of_block (h.g i hi)), below_chain h.bel hb h.bel.size⟩
theorem GAt.alloc (h : GAt w B q w1) (o : Obj) : GAt w B q (w1.alloc o) := h.keep ((Below.refl _ _).alloc (Nat.le_refl _) _)
/-- An array is stored into. -/
theorem GAt.arr (h : GAt w B q w1) {b : Nat} (hM : Mod (· = b) w1 w2) (hb : b = B.ga ∨ b = B.oa ∨ b = B.ka ∨ b = B.ba) : GAt w B q w2 := by
  have o := h.ok
  have := o.x; have := o.p; have := o.m; have := o.ga; have := o.oa; have := o.ka; have := o.ba
  have hx : ¬ B.x = b := by omega
  have hp : ¬ B.p = b := by omega
  have hm : ¬ B.m = b := by omega
  refine ⟨o, h.tab.mod hM hx, h.pu.mod hM hp hm, fun i hi => ?_, mod_below h.bel hM (by intro j hj; omega) h.bel.size⟩
  have := o.gb i hi
  exact (hM.block _ (lt_of_block (h.g i hi)) (by omega)).trans (h.g i hi)
/-- A gate's deed has been done. -/
theorem GAt.gate (h : GAt w B q w1) (hn : n < 4) (hM : Mod (GOwn (B.gb n) B.p B.m) w1 w2) (hP : PurseAt w2 B.p B.m q'.s) (hG : w2.heap[B.gb n]? = some (GBlk (gt B q' n))) (he : ∀ i, i < 4 → i ≠ n → gt B q' i = gt B q i) : GAt w B q' w2 := by
  have o := h.ok
  have := o.x; have := o.p; have := o.m; have := o.ga; have := o.oa; have := o.ka; have := o.ba
  have hgn := o.gb n hn
  refine ⟨o, h.tab.mod hM (by rintro (e | e | e) <;> omega), hP, fun i hi => ?_, mod_below h.bel hM (by rintro i (e | e | e) <;> omega) h.bel.size⟩
  by_cases hin : i = n
  · subst hin; exact hG
  · rw [he i hi hin]
    have hgi := o.gb i hi
    have := o.gs i n hi hn hin
    exact (hM.block _ (lt_of_block (h.g i hi)) (by rintro (e | e | e) <;> omega)).trans (h.g i hi)
/-- What a gate's deed leaves. -/
theorem GAt.other {i : Nat} (h : GAt w B q w1) (hn : n < 4) (hM : Mod (GOwn (B.gb n) B.p B.m) w1 w2) (hi : i = B.ga ∨ i = B.oa ∨ i = B.ka ∨ i = B.ba ∨ i < w.heap.size) (hl : i < w1.heap.size) : w2.heap[i]? = w1.heap[i]? := by
  have o := h.ok
  have := o.x; have := o.p; have := o.m; have := o.ga; have := o.oa; have := o.ka; have := o.ba
  have hgn := o.gb n hn
  exact hM.block i hl (by rintro (e | e | e) <;> omega)

theorem close_gt (B : Bls) (q : Qs) (n : Nat) : closeSt q.s (gt B q n) = (refQ q n).s := by
  unfold closeSt refQ gt shut
  cases q.o n <;> rfl
theorem gt_p (B : Bls) (q : Qs) (n : Nat) : (gt B q n).p = none ∨ (gt B q n).p = some B.p := by
  unfold gt
  cases q.o n
  · exact .inl rfl
  · exact .inr rfl

theorem GAt.ne (h : GAt w B q w1) (hn : n < 4) : B.gb n ≠ B.p ∧ B.gb n ≠ B.m ∧ ¬ GOwn (B.gb n) B.p B.m B.x := by
  have o := h.ok
  have := o.x; have := o.p; have := o.m; have := o.ga; have := o.oa; have := o.ka; have := o.ba
  have hgn := o.gb n hn
  exact ⟨by omega, by omega, by rintro (e | e | e) <;> omega⟩

theorem res_q {xk xb : Int} {r : Nat} (h : GAt w B q w1) (hI : QI xk xb r q) (hr : r < 4000000000) (hn : n < 4) (k b : Int) (hk : -128 ≤ k ∧ k ≤ 127) (hb : -128 ≤ b ∧ b ≤ 127) :
    Calls Try.prog 91 #[.pointer (some ⟨(B.gb n), 0, none⟩), .agg #[.int .i64 k, .int .i64 b]] w1 fun e w2 => e = .returned (.int .i64 (if fitQ q n k b then 0 else 10)) ∧ GAt w B (resQ q n k b) w2 ∧ Mod (GOwn (B.gb n) B.p B.m) w1 w2 := by
  obtain ⟨n1, n2, nx⟩ := h.ne hn
  have R := gReserve_ok (n := 7) (l := L7 B.p) (g := gt B q n) (s := q.s) k b w1 (h.g n hn) h.tab (gt_p B q n) h.pu hI.inv n1 n2 nx (may7 B.p n hn) rfl (by omega) rfl (by have := hI.last; omega) (by omega) (by omega)
  rw [close_gt] at R
  obtain ⟨_, _, _, hres, _⟩ := hI.res hn hk hb
  refine R.mono ?_
  rintro e w2 ⟨rfl, hG, hP, hM⟩
  rw [hres]
  have hs : (resQ q n k b).s = ((refQ q n).s.res (max k 0) (max b 0)).2.2 := by unfold resQ; simp only; split <;> rfl
  refine ⟨rfl, h.gate hn hM (by rw [hs]; exact hP) ?_ (fun i hi hin => ?_), hM⟩
  · have e : resG (gt B q n) B.p k b ((refQ q n).s.res (max k 0) (max b 0)) = gt B (resQ q n k b) n := by
      unfold resG resQ
      simp only
      split
      · simp [gt, Quota.set]
      · simp [gt, Quota.set]
    rw [← e]; exact hG
  · unfold gt resQ
    simp only
    split <;> simp [Quota.set, hin]

theorem ref_q {xk xb : Int} {r : Nat} (h : GAt w B q w1) (hI : QI xk xb r q) (hn : n < 4) :
    Calls Try.prog 90 #[.pointer (some ⟨(B.gb n), 0, none⟩)] w1 fun e w2 => e = .returned (.tuple #[]) ∧ GAt w B (refQ q n) w2 ∧ Mod (GOwn (B.gb n) B.p B.m) w1 w2 := by
  obtain ⟨n1, n2, nx⟩ := h.ne hn
  have R := gRefund_at (g := gt B q n) (s := q.s) w1 (h.g n hn) (gt_p B q n) h.pu hI.inv n1 n2
  rw [close_gt] at R
  refine R.mono ?_
  rintro e w2 ⟨rfl, hG, hP, hM⟩
  refine ⟨rfl, h.gate hn hM hP ?_ (fun i hi hin => ?_), hM⟩
  · have e : ({ gt B q n with p := none } : Gt) = gt B (refQ q n) n := by simp [gt, refQ, shut, Quota.set]
    rw [← e]; exact hG
  · simp [gt, refQ, shut, Quota.set, hin]

theorem com_q {xk xb : Int} {r : Nat} (h : GAt w B q w1) (hI : QI xk xb r q) (hn : n < 4) :
    Calls Try.prog 89 #[.pointer (some ⟨(B.gb n), 0, none⟩)] w1 fun e w2 => e = .returned (.tuple #[]) ∧ GAt w B (comQ q n) w2 ∧ Mod (GOwn (B.gb n) B.p B.m) w1 w2 := by
  obtain ⟨n1, n2, nx⟩ := h.ne hn
  have he : ∀ i, i < 4 → i ≠ n → gt B (comQ q n) i = gt B q i := fun i hi hin => by simp [gt, comQ, shut, Quota.set, hin]
  cases hon : q.o n
  · have hgp : (gt B q n).p = none := by simp [gt, hon]
    refine (gCommit_no w1 (h.g n hn) hgp).mono ?_
    rintro e w2 ⟨rfl, rfl⟩
    have hs : (comQ q n).s = q.s := by simp [comQ, shut, hon]
    refine ⟨rfl, h.gate hn (Mod.refl _ _) (by rw [hs]; exact h.pu) ?_ he, Mod.refl _ _⟩
    have e : gt B (comQ q n) n = gt B q n := by simp [gt, comQ, shut, Quota.set, hon]
    rw [e]; exact h.g n hn
  · have hgp : (gt B q n).p = some B.p := by simp [gt, hon]
    obtain ⟨_, l2, l3⟩ := hI.look n hn hon
    refine (gCommit_yes w1 (h.g n hn) hgp h.pu hI.inv n1 n2 (by show 0 ≤ q.u n; omega) (by show 0 ≤ q.v n; omega)).mono ?_
    rintro e w2 ⟨rfl, hG, hP, hM⟩
    have hs : (comQ q n).s = comPay q.s (q.t n) (q.u n) (q.v n) := by simp [comQ, shut, hon, comS, comPay]
    refine ⟨rfl, h.gate hn hM (by rw [hs]; exact hP) ?_ he, hM⟩
    have e : ({ gt B q n with p := none } : Gt) = gt B (comQ q n) n := by simp [gt, comQ, shut, Quota.set]
    rw [← e]; exact hG

theorem has_q (h : GAt w B q w1) : Calls Try.prog 9 #[.pointer (some ⟨B.x, 0, none⟩), .int .i64 7] w1 fun e w2 => e = .returned (.tuple #[.agg #[.int .u64 q.s.hk, .int .u64 q.s.hb], .bool true]) ∧ GAt w B q w2 ∧ Below w1.heap.size w1 w2 := by
  refine (tHas_at (n := 7) (p := B.p) w1 h.tab (by omega) (by omega) rfl h.pu).mono ?_
  rintro e w2 ⟨rfl, hB⟩
  exact ⟨rfl, h.keep hB, hB⟩
end
end Go.Proofs.Ytiddojegcbpafaa.T
