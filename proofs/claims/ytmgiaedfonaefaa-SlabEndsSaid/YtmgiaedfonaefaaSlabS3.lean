/- The slab's loops: IndexFunc and count (string). -/
import Derived.Test.YtmgiaedfonaefaaSlabS2
namespace Go.Proofs.Ytmgiaedfonaefaa.S
open Go.ChangeShapes Go.WideShapes Go.ChangeAt Go.RowKit Go.Burg

theorem room_is (is : Bool) (x : ByteArray) (gen : Int) (r : Bool) (hr : (!is && decide (gen < 4294967295)) = r) (w : World) :
    Calls Try.prog 46 #[.agg #[.bool is, (.string x), .int .u32 gen]] w fun e w' => e = .returned (.bool r) ∧ Below w.heap.size w w' := by
  subst hr
  exact room_any is x gen w

theorem index_any {g : Nat} {l : List (Cel ByteArray)} (r : Int) (w : World) (h : CellsAt (fun x : ByteArray => (.string x)) 93 w g l) (hn : l.length ≤ 4096) (hF : First l r) :
    Calls Try.prog 45 #[.slice (some ⟨g, 0, none⟩) l.length l.length, .func (.func 46) #[] #[]] w fun e w' => e = .returned (.int .i64 r) ∧ Below w.heap.size w w' := by
  have HF := hid hF
  clear hF
  have hgl := h.lt
  go_enter Try.func45, Try.ntmps45
  go_wp2_with fail
  go_loopw [8] (fun iv wr => ∃ k : Nat, k ≤ l.length ∧ iv = .int .i64 k ∧ (∀ j, j < k → ∀ d : Cel ByteArray, l[j]? = some d → d.room = false) ∧ Below w.heap.size w wr) (fun iv _ => l.length - (intOf iv).toNat)
  case atStart => exact ⟨0, Nat.zero_le _, rfl, fun _ h => absurd h (Nat.not_lt_zero _), Below.refl _ _⟩
  case round =>
    obtain ⟨k, hk, rfl, hp, hB⟩ := hrel
    have HP := hid hp
    have HB := hid hB
    clear hp
    by_cases hlt : k < l.length
    · obtain ⟨c0, c1, c2, cf, g1, g2⟩ := (h.same (hB.block g hgl)).cell (List.getElem?_eq_getElem hlt)
      have hi := hid (List.getElem?_eq_getElem hlt)
      generalize l[k] = c at c0 c1 c2 g1 g2 hi
      obtain ⟨is, x, gen⟩ := c
      simp only at c0 c1 c2 g1 g2
      clear hB
      have HR := hid (fun w => room_any is x gen w)
      by_cases hr : (!is && decide (gen < 4294967295)) = true
      · have hrk : r = k := HF.out.at hi.out hr HP.out
        rw [hr] at HR
        clear hr
        go_wp2_with (go_at_call 46; refine (HR.out _).mono ?_; rintro e w2 ⟨rfl, hB2⟩; have HB2 := hid hB2; clear hB2)
        go_ret
        exact ⟨by simp [hrk], HB.out.trans (HB2.out.mono HB.out.size)⟩
      · rw [Bool.eq_false_iff.2 hr] at HR
        have hr' := hid hr
        clear hr
        go_wp2_with (go_at_call 46; refine (HR.out _).mono ?_; rintro e w2 ⟨rfl, hB2⟩; have HB2 := hid hB2; clear hB2)
        go_roundw
        case rel => exact ⟨k + 1, by omega, by go_num, fun j hj d hd => by
          rcases Nat.lt_succ_iff_lt_or_eq.1 hj with h | rfl
          · exact HP.out j h d hd
          · have := hi.out.symm.trans hd
            cases this
            exact Bool.eq_false_iff.2 hr'.out, HB.out.trans (HB2.out.mono HB.out.size)⟩
        case measure => simp [intOf]; omega
    · obtain rfl : k = l.length := by omega
      have hrk : r = -1 := HF.out.none HP.out
      go_wp2_with fail
      go_ret
      exact ⟨by simp [hrk], HB.out⟩

end Go.Proofs.Ytmgiaedfonaefaa.S
