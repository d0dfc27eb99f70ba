/- The slab of places: there, room, IndexFunc. -/
import Derived.Test.YtgdmfledhhoedaaN0
namespace Go.Proofs.Ytgdmfledhhoedaa.S
set_option maxRecDepth 8000
open Go.ChangeShapes Go.WideShapes Go.ChangeAt Go.RowKit Go.Burg

theorem there_any {b g : Nat} {l : List (Cel Nd)} (w : World) (h : SlabN 148 137 w b g l) :
    Calls Try.prog 62 #[.pointer (some ⟨b, 0, none⟩)] w fun e w' => e = .returned (.bool true) ∧ Below w.heap.size w w' := by
  obtain ⟨c0, f0⟩ := h.head
  have hp := h.pos
  have ht := h.top
  go_enter Try.func62, Try.ntmps62
  go_wp2
  go_ret
  exact ⟨by simp; exact hp, Below.refl _ _⟩

theorem room_any (is : Bool) (k : Int) (c v p : ByteArray) (y z : Sl) (pl di : Bool) (gen : Int) (w : World) :
    Calls Try.prog 65 #[.agg #[.bool is, .int .i64 k, .string c, .string v, .string p, .slice y.a y.n y.c, .slice z.a z.n z.c, .bool pl, .bool di, .int .u32 gen]] w fun e w' => e = .returned (.bool (!is && decide (gen < 4294967295))) ∧ Below w.heap.size w w' := by
  cases is <;> by_cases hg : gen < 4294967295
  all_goals
    simp only [hg, decide_true, decide_false, Bool.not_true, Bool.not_false, Bool.and_true, Bool.and_false]
    go_enter Try.func65, Try.ntmps65
    go_wp2
    go_ret
    exact ⟨rfl, by (repeat (first | exact Below.refl _ _ | assumption | with_reducible refine Below.drew ?_ | with_reducible refine below_drewN ?_ | with_reducible refine Below.setCell ?_ (by first | (simp; done) | (simp; omega)) _ | with_reducible refine Below.alloc ?_ (by first | exact Nat.le_refl _ | (simp; done) | (simp; omega)) _))⟩

theorem index_any {g : Nat} {l : List (Cel Nd)} (r : Int) (w : World) (h : CellsN 148 w g l) (hn : l.length ≤ 4096) (hF : First l r) :
    Calls Try.prog 64 #[.slice (some ⟨g, 0, none⟩) l.length l.length, .func (.func 65) #[] #[]] w fun e w' => e = .returned (.int .i64 r) ∧ Below w.heap.size w w' := by
  have HF := hid hF
  clear hF
  have hgl := h.lt
  go_enter Try.func64, Try.ntmps64
  go_wp2_with fail
  go_loopw [8] (fun iv wr => ∃ k : Nat, k ≤ l.length ∧ iv = .int .i64 k ∧ (∀ j, j < k → ∀ d : Cel Nd, l[j]? = some d → d.room = false) ∧ Below w.heap.size w wr) (fun iv _ => l.length - (intOf iv).toNat)
  case atStart => exact ⟨0, Nat.zero_le _, rfl, fun _ h => absurd h (Nat.not_lt_zero _), Below.refl _ _⟩
  case round =>
    obtain ⟨k, hk, rfl, hp, hB⟩ := hrel
    have HP := hid hp
    have HB := hid hB
    clear hp
    by_cases hlt : k < l.length
    · obtain ⟨⟨c0, c1, c2, c3, c4, c5, c6, c7, c8, c9⟩, cf, g1, g2⟩ := (h.same (hB.block g hgl)).cell (List.getElem?_eq_getElem hlt)
      have hi := hid (List.getElem?_eq_getElem hlt)
      generalize l[k] = c at c0 c1 c2 c3 c4 c5 c6 c7 c8 c9 g1 g2 hi
      obtain ⟨is, ⟨kn, cd, vl, pt, ⟨ya, yn, yc⟩, ⟨za, zn, zc⟩, pl, di⟩, gen⟩ := c
      simp only at c0 c1 c2 c3 c4 c5 c6 c7 c8 c9 g1 g2
      clear hB
      have HR := hid (fun w => room_any is kn cd vl pt ⟨ya, yn, yc⟩ ⟨za, zn, zc⟩ pl di gen w)
      by_cases hr : (!is && decide (gen < 4294967295)) = true
      · have hrk : r = k := HF.out.at hi.out hr HP.out
        rw [hr] at HR
        clear hr
        go_wp2_with (go_at_call 65; refine (HR.out _).mono ?_; rintro e w2 ⟨rfl, hB2⟩; have HB2 := hid hB2; clear hB2)
        go_ret
        exact ⟨by simp [hrk], HB.out.trans (HB2.out.mono HB.out.size)⟩
      · rw [Bool.eq_false_iff.2 hr] at HR
        have hr' := hid hr
        clear hr
        go_wp2_with (go_at_call 65; refine (HR.out _).mono ?_; rintro e w2 ⟨rfl, hB2⟩; have HB2 := hid hB2; clear hB2)
        go_roundw
        case rel => exact ⟨k + 1, by omega, by go_num, fun j hj d hd => by
          rcases Nat.lt_succ_iff_lt_or_eq.1 hj with h | rfl
          · exact HP.out j h d hd
          · have := hi.out.symm.trans hd
            cases this
            exact Bool.eq_false_iff.2 hr'.out, HB.out.trans (HB2.out.mono HB.out.size)⟩
        case measure => simp [intOf]; omega
    · obtain rfl : k = l.length := by omega
      have hrk : r = -1 := HF.out.none HP.out
      go_wp2_with fail
      go_ret
      exact ⟨by simp [hrk], HB.out⟩
end Go.Proofs.Ytgdmfledhhoedaa.S
