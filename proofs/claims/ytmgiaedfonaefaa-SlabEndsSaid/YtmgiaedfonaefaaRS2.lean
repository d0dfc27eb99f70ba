/- The reference slab: Len, Left, Take, New. -/
import Derived.Test.YtmgiaedfonaefaaRS1
import Derived.Test.YtmgiaedfonaefaaSlabI4
namespace Go.Proofs.Ytmgiaedfonaefaa.R
open Go.ChangeShapes Go.WideShapes Go.ChangeAt Go.RowKit Go.Burg

theorem count_step {α : Type} {p : α → Bool} {l : List α} {j : Nat} {c : α} (hi : l[j]? = some c) : (l.take (j + 1)).countP p = (l.take j).countP p + (if p c then 1 else 0) := by
  rw [List.take_add_one, hi, Option.toList_some, List.countP_append]
  simp [List.countP_cons]
theorem count_take {α : Type} {p : α → Bool} {l : List α} (j : Nat) : (l.take j).countP p ≤ j := Nat.le_trans List.countP_le_length (by simp; omega)

theorem len_any {b g : Nat} {l : List (Cel Int)} (w : World) (h : SlabAt (fun x : Int => .int .i64 x) 82 79 w b g l) :
    Calls Try.prog 40 #[.pointer (some ⟨b, 0, none⟩)] w fun e w' => e = .returned (.int .i64 (l.countP Cel.is : Nat)) ∧ Below w.heap.size w w' := by
  have ht := h.top
  have H := hid h
  obtain ⟨s0, sf⟩ := h.head
  clear h
  go_enter Try.func40, Try.ntmps40
  go_wp2_with fail
  go_loopw [3, 4] (fun nv iv wr => ∃ j : Nat, j ≤ l.length ∧ iv = .int .i64 j ∧ nv = .int .i64 ((l.take j).countP Cel.is : Nat) ∧ wr = w) (fun _ iv _ => l.length - (intOf iv).toNat)
  case atStart => exact ⟨0, Nat.zero_le _, rfl, by simp, by first | rfl | trivial⟩
  case round =>
    obtain ⟨j, hj, rfl, rfl, rfl⟩ := hrel
    have hct := count_take (p := Cel.is) (l := l) j
    by_cases hlt : j < l.length
    · have hi : l[j]? = some l[j] := List.getElem?_eq_getElem hlt
      have hst := count_step (p := Cel.is) hi
      obtain ⟨c0, c1, c2, cf, _, _⟩ := H.out.hc.cell hi
      generalize l[j] = c at hi hst c0 c1 c2
      obtain ⟨is, x, gn⟩ := c
      simp only at hst c0 c1 c2
      cases is
      · have HS := hid hst
        clear hst hi
        go_wp2_with fail
        go_roundw
        case rel => exact ⟨j + 1, by omega, by go_num, by rw [HS.out]; simp, by first | rfl | trivial⟩
        case measure => simp [intOf]; omega
      · have HS := hid hst
        clear hst hi
        go_wp2_with fail
        go_roundw
        case rel => exact ⟨j + 1, by omega, by go_num, by rw [HS.out]; simp, by first | rfl | trivial⟩
        case measure => simp [intOf]; omega
    · obtain rfl : j = l.length := by omega
      clear hct hlt
      go_wp2_with fail
      go_ret
      exact ⟨by simp, Below.refl _ _⟩

theorem left_any {b g : Nat} {l : List (Cel Int)} (w : World) (h : SlabAt (fun x : Int => .int .i64 x) 82 79 w b g l) :
    Calls Try.prog 41 #[.pointer (some ⟨b, 0, none⟩)] w fun e w' => e = .returned (.int .i64 (l.countP Cel.room : Nat)) ∧ Below w.heap.size w w' := by
  have ht := h.top
  have H := hid h
  obtain ⟨s0, sf⟩ := h.head
  clear h
  go_enter Try.func41, Try.ntmps41
  go_wp2_with fail
  go_loopw [3, 4] (fun nv iv wr => ∃ j : Nat, j ≤ l.length ∧ iv = .int .i64 j ∧ nv = .int .i64 ((l.take j).countP Cel.room : Nat) ∧ wr = w) (fun _ iv _ => l.length - (intOf iv).toNat)
  case atStart => exact ⟨0, Nat.zero_le _, rfl, by simp, by first | rfl | trivial⟩
  case round =>
    obtain ⟨j, hj, rfl, rfl, rfl⟩ := hrel
    have hct := count_take (p := Cel.room) (l := l) j
    by_cases hlt : j < l.length
    · have hi : l[j]? = some l[j] := List.getElem?_eq_getElem hlt
      have hst := count_step (p := Cel.room) hi
      obtain ⟨c0, c1, c2, cf, _, _⟩ := H.out.hc.cell hi
      generalize l[j] = c at hi hst c0 c1 c2
      obtain ⟨is, x, gn⟩ := c
      simp only at c0 c1 c2
      cases is
      · by_cases hg : gn < 4294967295
        · have hrm : Cel.room ⟨false, x, gn⟩ = true := by simp [Cel.room, hg]
          rw [hrm] at hst
          have HS := hid hst
          clear hst hi hrm
          go_wp2_with fail
          go_roundw
          case rel => exact ⟨j + 1, by omega, by go_num, by rw [HS.out]; simp, by first | rfl | trivial⟩
          case measure => simp [intOf]; omega
        · have hrm : Cel.room ⟨false, x, gn⟩ = false := by simp [Cel.room]; omega
          have hg2 : decide (gn < 4294967295) = false := by simp; omega
          rw [hrm] at hst
          have HS := hid hst
          clear hst hi hrm hg
          go_wp2_with fail
          go_roundw
          case rel => exact ⟨j + 1, by omega, by go_num, by rw [HS.out]; simp, by first | rfl | trivial⟩
          case measure => simp [intOf]; omega
      · have hrm : Cel.room ⟨true, x, gn⟩ = false := by simp [Cel.room]
        rw [hrm] at hst
        have HS := hid hst
        clear hst hi hrm
        go_wp2_with fail
        go_roundw
        case rel => exact ⟨j + 1, by omega, by go_num, by rw [HS.out]; simp, by first | rfl | trivial⟩
        case measure => simp [intOf]; omega
    · obtain rfl : j = l.length := by omega
      clear hct hlt
      go_wp2_with fail
      go_ret
      exact ⟨by simp, Below.refl _ _⟩

/-- What stands between the rounds of Take: the result's block and the slab. -/
structure TR (w : World) (b g : Nat) (l : List (Cel Int)) (wr : World) : Prop where
  sa : SlabAt (fun x : Int => .int .i64 x) 82 79 wr b g l
  rb : wr.heap[w.heap.size]? = some (.cells #[.int .i64 0, .int .u32 0] 31)
  bel : Below w.heap.size w wr

theorem TR.alloc {w wr : World} {b g : Nat} {l : List (Cel Int)} (h : TR w b g l wr) (o : Obj) : TR w b g l (wr.alloc o) :=
  ⟨h.sa.alloc o, blk_alloc h.rb, h.bel.alloc h.bel.size o⟩


set_option maxRecDepth 20000 in
set_option maxHeartbeats 2000000 in
theorem take_no {b g : Nat} {l : List (Cel Int)} (x : Int) (w : World) (h : SlabAt (fun x : Int => .int .i64 x) 82 79 w b g l) (hF : First l (-1)) :
    Calls Try.prog 39 #[.pointer (some ⟨b, 0, none⟩), .int .i64 x] w fun e w' => e = .returned (.tuple #[.agg #[.int .i64 0, .int .u32 0], .int .i64 14]) ∧ Below w.heap.size w w' := by
  have ht := h.top
  have H0 : Hid (TR w b g l (w.alloc (.cells #[.int .i64 0, .int .u32 0] 31))) := hid ⟨h.alloc _, heap_new _ _, (Below.refl _ _).alloc (Nat.le_refl _) _⟩
  have hno : ∀ (j : Nat) (d : Cel Int), l[j]? = some d → d.room = false := by
    rcases hF with ⟨k, c, hk, _⟩ | ⟨_, h⟩
    · omega
    · exact h
  have HNO := hid hno
  clear h hF hno
  go_enter Try.func39, Try.ntmps39
  go_wp2_with fail
  go_loopw [6] (fun iv wr => ∃ j : Nat, j ≤ l.length ∧ iv = .int .i64 j ∧ TR w b g l wr) (fun iv _ => l.length - (intOf iv).toNat)
  case atStart => exact ⟨0, Nat.zero_le _, rfl, H0.out⟩
  case round =>
    clear H0
    obtain ⟨j, hj, rfl, hrel⟩ := hrel
    by_cases hlt : j < l.length
    · have hi : l[j]? = some l[j] := List.getElem?_eq_getElem hlt
      have HR := hid (hrel.alloc (.cells #[.bool l[j].is, .int .i64 l[j].x, .int .u32 l[j].gen] 82))
      obtain ⟨s0, sf⟩ := hrel.sa.head
      obtain ⟨c0, c1, c2, cf, _, _⟩ := hrel.sa.hc.cell hi
      have hbl := hrel.sa.blt
      have hgl := hrel.sa.glt
      have hnr := HNO.out j _ hi
      generalize l[j] = c at hi hnr c0 c1 c2 HR
      obtain ⟨is, y, gn⟩ := c
      simp only [Cel.room, Bool.and_eq_false_iff, Bool.not_eq_false', decide_eq_false_iff_not] at hnr
      simp only at c0 c1 c2 HR
      clear hrel hi
      cases is
      · have hg2 : decide (gn < 4294967295) = false := by simp at hnr ⊢; omega
        clear hnr
        go_wp2_with fail
        go_roundw
        case rel => exact ⟨j + 1, by omega, by go_num, HR.out⟩
        case measure => simp [intOf]; omega
      · clear hnr
        go_wp2_with fail
        go_roundw
        case rel => exact ⟨j + 1, by omega, by go_num, HR.out⟩
        case measure => simp [intOf]; omega
    · obtain rfl : j = l.length := by omega
      have HB := hid hrel.bel
      obtain ⟨s0, sf⟩ := hrel.sa.head
      have n0 := cell_of hrel.rb 0
      have n1 := cell_of hrel.rb 1
      have nf := free_of hrel.rb
      clear hlt hrel
      go_wp2_with fail
      refine bodyPost_ret (v := .tuple #[.agg #[_, _], _]) (by simp [results, Try.results39, go_sem, n0, n1]) rfl ⟨rfl, ?_⟩
      exact (HB.out.setCell (Nat.le_refl _) _).setCell (Nat.le_refl _) _

set_option maxRecDepth 20000 in
set_option maxHeartbeats 4000000 in
theorem take_yes {b g k : Nat} {l : List (Cel Int)} {c : Cel Int} (x : Int) (w : World) (h : SlabAt (fun x : Int => .int .i64 x) 82 79 w b g l) (hF : First l (k : Int)) (hk : l[k]? = some c) (hr : c.room = true) :
    Calls Try.prog 39 #[.pointer (some ⟨b, 0, none⟩), .int .i64 x] w fun e w' => e = .returned (.tuple #[.agg #[.int .i64 k, .int .u32 (c.gen + 1)], .int .i64 0]) ∧ SlabAt (fun x : Int => .int .i64 x) 82 79 w' b g (l.set k ⟨true, x, c.gen + 1⟩) ∧ Mod (· = g) w w' := by
  have ht := h.top
  have hkl : k < l.length := (List.getElem?_eq_some_iff.1 hk).1
  have H0 : Hid (TR w b g l (w.alloc (.cells #[.int .i64 0, .int .u32 0] 31))) := hid ⟨h.alloc _, heap_new _ _, (Below.refl _ _).alloc (Nat.le_refl _) _⟩
  have hno : ∀ (j : Nat) (d : Cel Int), j < k → l[j]? = some d → d.room = false := by
    rcases hF with ⟨k', c', hk', _, _, h⟩ | ⟨hk', _⟩
    · obtain rfl : k = k' := by omega
      exact fun j d hj hd => h j hj d hd
    · omega
  have HNO := hid hno
  have HH := hid h
  have hgen : c.gen < 4294967295 := by
    simp only [Cel.room, Bool.and_eq_true, decide_eq_true_eq] at hr
    exact hr.2
  have hcis : c.is = false := by
    simp only [Cel.room, Bool.and_eq_true] at hr
    simpa using hr.1
  have hgen0 : 0 ≤ c.gen := (h.hc.cell hk).2.2.2.2.1
  have hgl0 := h.glt
  obtain ⟨is, y0, gen⟩ := c
  simp only at hgen hgen0 hcis
  subst hcis
  have HK := hid hk
  clear h hF hno hr hk
  go_enter Try.func39, Try.ntmps39
  go_wp2_with fail
  go_loopw [6] (fun iv wr => ∃ j : Nat, j ≤ k ∧ iv = .int .i64 j ∧ TR w b g l wr) (fun iv _ => k - (intOf iv).toNat)
  case atStart => exact ⟨0, Nat.zero_le _, rfl, H0.out⟩
  case round =>
    clear H0
    obtain ⟨j, hj, rfl, hrel⟩ := hrel
    have hlt : j < l.length := by omega
    by_cases hjk : j < k
    · as_aux_lemma =>
        have hi : l[j]? = some l[j] := List.getElem?_eq_getElem hlt
        have HR := hid (hrel.alloc (.cells #[.bool l[j].is, .int .i64 l[j].x, .int .u32 l[j].gen] 82))
        obtain ⟨s0, sf⟩ := hrel.sa.head
        obtain ⟨c0, c1, c2, cf, _, _⟩ := hrel.sa.hc.cell hi
        have hbl := hrel.sa.blt
        have hgl := hrel.sa.glt
        have hnr := HNO.out j _ hjk hi
        generalize l[j] = c at hi hnr c0 c1 c2 HR
        obtain ⟨is, y, gn⟩ := c
        simp only [Cel.room, Bool.and_eq_false_iff, Bool.not_eq_false', decide_eq_false_iff_not] at hnr
        simp only at c0 c1 c2 HR
        clear hrel hi
        cases is
        · have hg2 : decide (gn < 4294967295) = false := by simp at hnr ⊢; omega
          clear hnr
          go_wp2_with fail
          go_roundw
          case rel => exact ⟨j + 1, by omega, by go_num, HR.out⟩
          case measure => simp [intOf]; omega
        · clear hnr
          go_wp2_with fail
          go_roundw
          case rel => exact ⟨j + 1, by omega, by go_num, HR.out⟩
          case measure => simp [intOf]; omega
    · as_aux_lemma =>
        obtain rfl : j = k := by omega
        have hi := HK.out
        have HR := hid (hrel.alloc (.cells #[.bool false, .int .i64 y0, .int .u32 gen] 82))
        have HN := hid (heap_new wr (.cells #[.bool false, .int .i64 y0, .int .u32 gen] 82))
        obtain ⟨s0, sf⟩ := hrel.sa.head
        obtain ⟨c0, c1, c2, cf, _, _⟩ := hrel.sa.hc.cell hi
        simp only at c0 c1 c2
        have hbl := hrel.sa.blt
        have hgl := hrel.sa.glt
        have HRB := hid (lt_of_block hrel.rb)
        clear hrel hi hjk
        go_wp2_with fail
        obtain ⟨wc, hwc⟩ : ∃ wc, wr.alloc (.cells #[.bool false, .int .i64 y0, .int .u32 gen] 82) = wc := ⟨_, rfl⟩
        have hN2 : wc.heap[wr.heap.size]? = some (.cells #[.bool false, .int .i64 y0, .int .u32 gen] 82) := by rw [← hwc]; exact HN.out
        have hR2 : TR w b g l wc := by rw [← hwc]; exact HR.out
        rw [hwc]
        have HN2 := hid hN2
        have HR2 := hid hR2
        clear hN2 hR2 HN HR hwc s0 sf c0 c1 c2 cf
        refine wp_region_seq 11 (fun w1 => Below (wc).heap.size (wc) w1) (by kernel_rfl) (by kernel_rfl) (by kernel_rfl) ⟨rfl, rfl, rfl, Nat.le_refl _, fun _ _ => rfl⟩ ?_
        dsimp only [List.take]
        iterate 11
          refine Seq.cons (a' := ?_) ?_ ?_ ?_
          rotate_left
          ·
            intro w1 hw1
            have h2 := HR2.out.sa.keep hw1
            obtain ⟨s0, sf⟩ := h2.head
            have hn := blk_below HN2.out hw1 (lt_of_block HN2.out)
            have n2 := cell_of hn 2
            clear hn h2
            go_wp2_with (fail)
            refine ⟨?_, by first | assumption | (simpa using below_chain hw1 hb hw1.size)⟩
            exact rfl
          · kernel_rfl
        refine SeqI.nil ?_
        intro _ w1 _ hw1
        dsimp only [List.drop]
        have h3 := HR2.out.sa.keep hw1
        have hrb := blk_below HR2.out.rb hw1 (lt_of_block HR2.out.rb)
        have hn := blk_below HN2.out hw1 (lt_of_block HN2.out)
        have HB3 : Hid (Below w.heap.size w w1) := hid (HR2.out.bel.trans (hw1.mono HR2.out.bel.size))
        obtain ⟨s0, sf⟩ := h3.head
        obtain ⟨c0, c1, c2, cf, _, _⟩ := h3.hc.cell HK.out
        simp only at c0 c1 c2
        have n0 := cell_of hrb 0
        have n1 := cell_of hrb 1
        have nf := free_of hrb
        have p2 := cell_of hn 2
        have hpl : wr.heap.size ≠ g := by omega
        have hrl : w.heap.size ≠ g := by omega
        have HP := hid (h3.hc.put3 HK.out true x (gen + 1) ⟨by omega, by omega⟩)
        clear hw1 h3 hrb hn HN2 HR2
        go_wp2_with fail
        refine bodyPost_ret (v := .tuple #[.agg #[_, _], _]) (by simp [results, Try.results39, go_sem, n0, n1]) rfl ⟨rfl, ?_⟩
        have e : ∀ (W : World) (j : Nat) (v : Value), (W.setCell ⟨w.heap.size, j, none⟩ v).heap[g]? = W.heap[g]? := fun W j v => Below.heap_setCell _ _ _ _ (by intro e; simp at e; omega)
        have hC := HP.out.same ((e _ 1 (.int .u32 (gen + 1))).trans (e _ 0 (.int .i64 j)))
        have hM : Mod (· = g) w _ := (Mod.setCell (S := (· = g)) (p := ⟨w.heap.size, 1, none⟩) (Mod.setCell (S := (· = g)) (p := ⟨w.heap.size, 0, none⟩) (Mod.setCell (S := (· = g)) (p := ⟨g, j * 3 + 2, none⟩) (Mod.setCell (S := (· = g)) (p := ⟨g, j * 3 + 1, none⟩) (Mod.setCell (S := (· = g)) (p := ⟨g, j * 3, none⟩) (Mod.ofBelow HB3.out) (.inl rfl) (.bool true)) (.inl rfl) (.int .i64 x)) (.inl rfl) (.int .u32 (gen + 1))) (.inr (Nat.le_refl _)) (.int .i64 j)) (.inr (Nat.le_refl _)) (.int .u32 (gen + 1)))
        exact ⟨HH.out.turn hC (by simp) hM, hM⟩

theorem new_no (n : Int) (w : World) (h : n < 1 ∨ 4096 < n) :
    Calls Try.prog 17 #[.int .i64 n] w fun e w' => e = .returned (.tuple #[.pointer none, .bool false]) ∧ w = w' := by
  by_cases h1 : n < 1
  · clear h
    go_enter Try.func17, Try.ntmps17
    go_wp2_with fail
    go_ret2
    exact ⟨rfl, rfl⟩
  · have h2 : 4096 < n := by omega
    have h1 : decide (n < 1) = false := by simp; omega
    clear h
    go_enter Try.func17, Try.ntmps17
    go_wp2_with fail
    go_ret2
    exact ⟨rfl, rfl⟩

set_option maxRecDepth 20000 in
theorem new_any (n : Nat) (w : World) (h1 : 1 ≤ n) (h2 : n ≤ 4096) :
    Calls Try.prog 17 #[.int .i64 n] w fun e w' => ∃ b g, e = .returned (.tuple #[.pointer (some ⟨b, 0, none⟩), .bool true]) ∧ w.heap.size ≤ b ∧ w.heap.size ≤ g ∧ SlabAt (fun x : Int => .int .i64 x) 82 79 w' b g (List.replicate n ⟨false, 0, 0⟩) ∧ Below w.heap.size w w' := by
  obtain ⟨i, hi, hz, hs, hby⟩ := info_parts (P := Try.prog) (e := 82) (z := .agg #[.bool false, .int .i64 0, .int .u32 0]) (size := 3) (bytes := 24) (by kernel_rfl)
  have HI := hid hi
  have HZ := hid hz
  have HS := hid hs
  have HY := hid hby
  have d1 : decide ((n : Int) < 1) = false := by simp; omega
  have d2 : decide (4096 < (n : Int)) = false := by simp; omega
  clear hi hz hs hby
  go_enter Try.func17, Try.ntmps17
  go_wp2_with (at_make; go_loud (refine wpList_make_full _ rfl _ _ 77 rfl w.heap.size 82 i _ 3 Try.underlying77 HI.out HZ.out HS.out _ _ _ _ n rfl rfl rfl rfl (by rw [HY.out]; omega) (by simp [maxLen]; omega) (Nat.le_refl _) ?_))
  intro w1 hown hgr
  go_wp2
  go_ret2
  have hB1 : Below w.heap.size w w1 := ⟨hgr.os, hgr.tape, hgr.output, hgr.size, fun k hk => hgr.block k hk (by simp)⟩
  have hcl := hown.cellAt
  have hlt := (hown.lt w.heap.size rfl).2
  have hc : CellsAt (fun x : Int => .int .i64 x) 82 w1 w.heap.size (List.replicate n ⟨false, 0, 0⟩) := by
    refine ⟨?_, fun c hc => ?_⟩
    · rcases hown.2 with ⟨h, _⟩ | ⟨g', cap', cur, h, _, hg, _⟩
      · simp at h
      · simp only [Value.slice.injEq, Option.some.injEq, Addr.mk.injEq, and_true, true_and] at h
        obtain ⟨rfl, rfl⟩ := h
        refine ⟨cur, hg, fun j c hj => ?_⟩
        have hjn : j < n := by have := (List.getElem?_eq_some_iff.1 hj).1; simpa using this
        have hcc : c = ⟨false, 0, 0⟩ := by
          have := List.mem_of_getElem? hj
          exact List.eq_of_mem_replicate this
        subst hcc
        have q : ∀ o, o < 3 → cur[j * 3 + o]? = (#[.bool false, .int .i64 0, .int .u32 0] : Array Value)[o]? := fun o ho => by
          rw [← cell_of hg, hcl (j * 3 + o) (by omega), ← Array.getElem?_toList.symm]
          have := I.madeCells_get (z := #[.bool false, .int .i64 0, .int .u32 0]) (n := n * 3) (j := j * 3 + o) rfl (by omega)
          rw [this, show (j * 3 + o) % 3 = o by omega]
        exact ⟨q 0 (by omega), q 1 (by omega), q 2 (by omega)⟩
    · have := List.eq_of_mem_replicate hc
      subst this
      exact ⟨by decide, by decide⟩
  refine ⟨w1.heap.size, w.heap.size, rfl, hgr.size, Nat.le_refl _, ⟨?_, hc.same (Below.heap_alloc _ _ _ hlt), by omega, by simpa using h1, by simpa using h2⟩, hB1.alloc hB1.size _⟩
  simpa using heap_new w1 _
end Go.Proofs.Ytmgiaedfonaefaa.R
