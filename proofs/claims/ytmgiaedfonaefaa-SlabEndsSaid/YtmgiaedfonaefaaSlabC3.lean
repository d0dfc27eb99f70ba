/- The slab's loops: IndexFunc and count (int). -/
import Derived.Test.YtmgiaedfonaefaaSlabC2
namespace Go.Proofs.Ytmgiaedfonaefaa.C
open Go.Proofs.Ytmgiaedfonaefaa.I (Live room_any len1_any free1_any set1_any room_is len1_is)
open Go.ChangeShapes Go.WideShapes Go.ChangeAt Go.RowKit Go.Burg

theorem index_any {g cp : Nat} {l : List (Cel Int)} (r : Int) (w : World) (h : CellsAt (fun x : Int => (.int .i64 x)) 69 w g l) (hn : l.length ≤ 4096) (hF : First l r) :
    Calls Try.prog 27 #[.slice (some ⟨g, 0, none⟩) l.length cp, .func (.func 28) #[] #[]] w fun e w' => e = .returned (.int .i64 r) ∧ Below w.heap.size w w' := by
  have HF := hid hF
  clear hF
  have hgl := h.lt
  go_enter Try.func27, Try.ntmps27
  go_wp2_with fail
  go_loopw [8] (fun iv wr => ∃ k : Nat, k ≤ l.length ∧ iv = .int .i64 k ∧ (∀ j, j < k → ∀ d : Cel Int, l[j]? = some d → d.room = false) ∧ Below w.heap.size w wr) (fun iv _ => l.length - (intOf iv).toNat)
  case atStart => exact ⟨0, Nat.zero_le _, rfl, fun _ h => absurd h (Nat.not_lt_zero _), Below.refl _ _⟩
  case round =>
    obtain ⟨k, hk, rfl, hp, hB⟩ := hrel
    have HP := hid hp
    have HB := hid hB
    clear hp
    by_cases hlt : k < l.length
    · obtain ⟨c0, c1, c2, cf, g1, g2⟩ := (h.same (hB.block g hgl)).cell (List.getElem?_eq_getElem hlt)
      have hi := hid (List.getElem?_eq_getElem hlt)
      generalize l[k] = c at c0 c1 c2 g1 g2 hi
      obtain ⟨is, x, gen⟩ := c
      simp only at c0 c1 c2 g1 g2
      clear hB
      have HR := hid (fun w => room_any is x gen w)
      by_cases hr : (!is && decide (gen < 4294967295)) = true
      · have hrk : r = k := HF.out.at hi.out hr HP.out
        rw [hr] at HR
        clear hr
        go_wp2_with (go_at_call 28; refine (HR.out _).mono ?_; rintro e w2 ⟨rfl, hB2⟩; have HB2 := hid hB2; clear hB2)
        go_ret
        exact ⟨by simp [hrk], HB.out.trans (HB2.out.mono HB.out.size)⟩
      · rw [Bool.eq_false_iff.2 hr] at HR
        have hr' := hid hr
        clear hr
        go_wp2_with (go_at_call 28; refine (HR.out _).mono ?_; rintro e w2 ⟨rfl, hB2⟩; have HB2 := hid hB2; clear hB2)
        go_roundw
        case rel => exact ⟨k + 1, by omega, by go_num, fun j hj d hd => by
          rcases Nat.lt_succ_iff_lt_or_eq.1 hj with h | rfl
          · exact HP.out j h d hd
          · have := hi.out.symm.trans hd
            cases this
            exact Bool.eq_false_iff.2 hr'.out, HB.out.trans (HB2.out.mono HB.out.size)⟩
        case measure => simp [intOf]; omega
    · obtain rfl : k = l.length := by omega
      have hrk : r = -1 := HF.out.none HP.out
      go_wp2_with fail
      go_ret
      exact ⟨by simp [hrk], HB.out⟩



theorem count_left {b g cp : Nat} {l : List (Cel Int)} (w : World) (h : SlabC (fun x : Int => (.int .i64 x)) 69 66 w b g cp l) :
    Calls Try.prog 29 #[.pointer (some ⟨b, 0, none⟩), .func (.func 28) #[] #[]] w fun e w' => e = .returned (.int .i64 (l.countP Cel.room : Nat)) ∧ Below w.heap.size w w' := by
  obtain ⟨s0, sf⟩ := h.head
  have hgl := h.glt
  have hn := h.top
  go_enter Try.func29, Try.ntmps29
  go_wp2_with fail
  go_loopw [4, 12] (fun nv iv wr => ∃ k : Nat, k ≤ l.length ∧ iv = .int .i64 k ∧ nv = .int .i64 ((l.take k).countP Cel.room : Nat) ∧ Below w.heap.size w wr) (fun _ iv _ => l.length - (intOf iv).toNat)
  case atStart => exact ⟨0, Nat.zero_le _, rfl, rfl, Below.refl _ _⟩
  case round =>
    obtain ⟨k, hk, rfl, rfl, hB⟩ := hrel
    have HB := hid hB
    have hsz := hB.size
    by_cases hlt : k < l.length
    · obtain ⟨c0, c1, c2, cf, g1, g2⟩ := (h.hc.same (hB.block g hgl)).cell (List.getElem?_eq_getElem hlt)
      have hT : l.take (k + 1) = l.take k ++ [l[k]] := by simp
      have hT2 : (l.take (k + 1)).countP Cel.room = (l.take k).countP Cel.room + (if Cel.room l[k] then 1 else 0) := by rw [hT, List.countP_append, List.countP_singleton]
      have hcl : (l.take k).countP Cel.room ≤ k := Nat.le_trans List.countP_le_length (by simp; omega)
      have HT := hid hT2
      clear hT hT2
      generalize (l.take k).countP Cel.room = n at HT hcl ⊢
      generalize l[k] = c at c0 c1 c2 g1 g2 HT
      obtain ⟨is, x, gen⟩ := c
      simp only at c0 c1 c2 g1 g2
      have hgw : g < wr.heap.size := by omega
      clear hB
      have n0 := cell_of (heap_new wr (.cells #[.bool is, (.int .i64 x), .int .u32 gen] 69)) 0
      have n1 := cell_of (heap_new wr (.cells #[.bool is, (.int .i64 x), .int .u32 gen] 69)) 1
      have n2 := cell_of (heap_new wr (.cells #[.bool is, (.int .i64 x), .int .u32 gen] 69)) 2
      by_cases hr : (!is && decide (gen < 4294967295)) = true
      · have HR := hid (fun w => room_is is x gen true hr w)
        have hr' := hid hr
        clear hr
        go_wp2_with (go_at_call 28; refine (HR.out _).mono ?_; rintro e w2 ⟨rfl, hB2⟩; have HB2 := hid hB2; clear hB2)
        go_roundw
        case rel => exact ⟨k + 1, by omega, by go_num, by have h1 := HT.out; have h2 := hr'.out; simp only [Cel.room, h2, if_true] at h1; rw [h1]; go_num, (HB.out.alloc HB.out.size _).trans (HB2.out.mono (by simp; omega))⟩
        case measure => simp [intOf]; omega
      · have HR := hid (fun w => room_is is x gen false (Bool.eq_false_iff.2 hr) w)
        have hr' := hid (Bool.eq_false_iff.2 hr)
        clear hr
        go_wp2_with (go_at_call 28; refine (HR.out _).mono ?_; rintro e w2 ⟨rfl, hB2⟩; have HB2 := hid hB2; clear hB2)
        go_roundw
        case rel => exact ⟨k + 1, by omega, by go_num, by have h1 := HT.out; have h2 := hr'.out; simp only [Cel.room, h2, if_false, Bool.false_eq_true, Nat.add_zero] at h1; rw [h1], (HB.out.alloc HB.out.size _).trans (HB2.out.mono (by simp; omega))⟩
        case measure => simp [intOf]; omega
    · obtain rfl : k = l.length := by omega
      go_wp2_with fail
      go_ret
      exact ⟨by simp, HB.out⟩


theorem count_len {b g cp : Nat} {l : List (Cel Int)} (w : World) (h : SlabC (fun x : Int => (.int .i64 x)) 69 66 w b g cp l) :
    Calls Try.prog 29 #[.pointer (some ⟨b, 0, none⟩), .func (.func 33) #[] #[]] w fun e w' => e = .returned (.int .i64 (l.countP Cel.is : Nat)) ∧ Below w.heap.size w w' := by
  obtain ⟨s0, sf⟩ := h.head
  have hgl := h.glt
  have hn := h.top
  go_enter Try.func29, Try.ntmps29
  go_wp2_with fail
  go_loopw [4, 12] (fun nv iv wr => ∃ k : Nat, k ≤ l.length ∧ iv = .int .i64 k ∧ nv = .int .i64 ((l.take k).countP Cel.is : Nat) ∧ Below w.heap.size w wr) (fun _ iv _ => l.length - (intOf iv).toNat)
  case atStart => exact ⟨0, Nat.zero_le _, rfl, rfl, Below.refl _ _⟩
  case round =>
    obtain ⟨k, hk, rfl, rfl, hB⟩ := hrel
    have HB := hid hB
    have hsz := hB.size
    by_cases hlt : k < l.length
    · obtain ⟨c0, c1, c2, cf, g1, g2⟩ := (h.hc.same (hB.block g hgl)).cell (List.getElem?_eq_getElem hlt)
      have hT : l.take (k + 1) = l.take k ++ [l[k]] := by simp
      have hT2 : (l.take (k + 1)).countP Cel.is = (l.take k).countP Cel.is + (if Cel.is l[k] then 1 else 0) := by rw [hT, List.countP_append, List.countP_singleton]
      have hcl : (l.take k).countP Cel.is ≤ k := Nat.le_trans List.countP_le_length (by simp; omega)
      have HT := hid hT2
      clear hT hT2
      generalize (l.take k).countP Cel.is = n at HT hcl ⊢
      generalize l[k] = c at c0 c1 c2 g1 g2 HT
      obtain ⟨is, x, gen⟩ := c
      simp only at c0 c1 c2 g1 g2
      have hgw : g < wr.heap.size := by omega
      clear hB
      have n0 := cell_of (heap_new wr (.cells #[.bool is, (.int .i64 x), .int .u32 gen] 69)) 0
      have n1 := cell_of (heap_new wr (.cells #[.bool is, (.int .i64 x), .int .u32 gen] 69)) 1
      have n2 := cell_of (heap_new wr (.cells #[.bool is, (.int .i64 x), .int .u32 gen] 69)) 2
      by_cases hr : is = true
      · have HR := hid (fun w => len1_is is x gen true hr w)
        have hr' := hid hr
        clear hr
        go_wp2_with (go_at_call 33; refine (HR.out _).mono ?_; rintro e w2 ⟨rfl, hB2⟩; have HB2 := hid hB2; clear hB2)
        go_roundw
        case rel => exact ⟨k + 1, by omega, by go_num, by have h1 := HT.out; have h2 := hr'.out; simp only [h2, if_true] at h1; rw [h1]; go_num, (HB.out.alloc HB.out.size _).trans (HB2.out.mono (by simp; omega))⟩
        case measure => simp [intOf]; omega
      · have HR := hid (fun w => len1_is is x gen false (Bool.eq_false_iff.2 hr) w)
        have hr' := hid (Bool.eq_false_iff.2 hr)
        clear hr
        go_wp2_with (go_at_call 33; refine (HR.out _).mono ?_; rintro e w2 ⟨rfl, hB2⟩; have HB2 := hid hB2; clear hB2)
        go_roundw
        case rel => exact ⟨k + 1, by omega, by go_num, by have h1 := HT.out; have h2 := hr'.out; simp only [h2, if_false, Bool.false_eq_true, Nat.add_zero] at h1; rw [h1], (HB.out.alloc HB.out.size _).trans (HB2.out.mono (by simp; omega))⟩
        case measure => simp [intOf]; omega
    · obtain rfl : k = l.length := by omega
      go_wp2_with fail
      go_ret
      exact ⟨by simp, HB.out⟩

end Go.Proofs.Ytmgiaedfonaefaa.C
