/- SlabLeast: the walk. -/
import Derived.Test.YtmgiaedfonaefaaSlabAwake
namespace Go.Proofs.Ytmgiaedfonaefaa
open Go.ChangeShapes Go.WideShapes Go.ChangeAt Go.RowKit Go.Burg

/-- The slab after i takes: place k holds k. -/
def LL (slots i : Nat) : List (Cel Int) := (List.range slots).map fun k => if k < i then ⟨true, k, 1⟩ else ⟨false, 0, 0⟩
theorem LL_len (s i : Nat) : (LL s i).length = s := by simp [LL]
theorem LL_at {s i k : Nat} (h : k < s) : (LL s i)[k]? = some (if k < i then ⟨true, k, 1⟩ else ⟨false, 0, 0⟩) := by simp [LL, h]
theorem LL_zero (s : Nat) : List.replicate s (⟨false, 0, 0⟩ : Cel Int) = LL s 0 := by
  apply List.ext_getElem?
  intro j
  by_cases h : j < s
  · simp [LL_at h, h]
  · simp [LL, h]
theorem LL_set {s i : Nat} (h : i < s) : (LL s i).set i ⟨true, i, 0 + 1⟩ = LL s (i + 1) := by
  apply List.ext_getElem?
  intro j
  by_cases hj : j < s
  · by_cases e : i = j
    · subst e
      rw [List.getElem?_set_self (by rw [LL_len]; exact h), LL_at h, if_pos (by omega)]
      rfl
    · rw [List.getElem?_set_ne e, LL_at hj, LL_at hj]
      by_cases h1 : j < i
      · rw [if_pos h1, if_pos (by omega)]
      · rw [if_neg h1, if_neg (by omega)]
  · simp [LL, hj]
theorem LL_first {s i : Nat} (h : i < s) : First (LL s i) (i : Int) :=
  .inl ⟨i, _, rfl, LL_at h, by rw [if_neg (by omega)]; rfl, fun j hj d hd => by
    rw [LL_at (by omega), if_pos hj] at hd
    cases hd
    rfl⟩
theorem countP_lt (m n : Nat) (h : n ≤ m) : (List.range m).countP (fun k => decide (k < n)) = n := by
  induction m with
  | zero => simp; omega
  | succ m ih =>
    rw [List.range_succ, List.countP_append]
    by_cases hn : n ≤ m
    · rw [ih hn]
      simp
      omega
    · obtain rfl : n = m + 1 := by omega
      have : (List.range m).countP (fun k => decide (k < m + 1)) = m := by
        rw [List.countP_eq_length.2 (fun a ha => by simp at ha ⊢; omega)]
        simp
      rw [this]
      simp
theorem LL_count {s i : Nat} (h : i ≤ s) : (LL s i).countP Cel.is = i := by
  rw [LL, List.countP_map]
  refine Eq.trans ?_ (countP_lt s i h)
  congr 1
  funext k
  simp only [Function.comp]
  by_cases h : k < i <;> simp [h]
theorem LL_room (s : Nat) : (LL s 0).countP Cel.room = s := by
  rw [List.countP_eq_length.2 ?_, LL_len]
  intro a ha
  simp [LL] at ha
  obtain ⟨_, _, rfl⟩ := ha
  rfl

/-- The Refs that the takes gave. -/
def RR (i : Nat) : List Value := (List.range i).flatMap fun (k : Nat) => [.int .i64 (k : Int), .int .u32 1]
theorem RR_succ (i : Nat) : RR (i + 1) = RR i ++ [.int .i64 (i : Int), .int .u32 1] := by simp [RR, List.range_succ]
theorem RR_len (i : Nat) : (RR i).length = i * 2 := by
  induction i with
  | zero => rfl
  | succ i ih => rw [RR_succ, List.length_append, ih]; simp; omega
theorem RR_at {i k : Nat} (h : k < i) : (RR i)[k * 2]? = some (.int .i64 (k : Int)) ∧ (RR i)[k * 2 + 1]? = some (.int .u32 1) := by
  induction i with
  | zero => omega
  | succ i ih =>
    rw [RR_succ]
    by_cases hk : k < i
    · have := ih hk
      rw [List.getElem?_append_left (by rw [RR_len]; omega), List.getElem?_append_left (by rw [RR_len]; omega)]
      exact this
    · obtain rfl : k = i := by omega
      rw [List.getElem?_append_right (by rw [RR_len]; omega), List.getElem?_append_right (by rw [RR_len]; omega), RR_len]
      simp

/-- After the free and the take: the place is live, the counts are as before. -/
theorem after {s n p : Nat} (hn : n ≤ s) (hp : p < n) :
    I.Live (LL s n) p 1 p ⟨true, p, 1⟩ ∧ First ((LL s n).set p ⟨false, 0, 1⟩) (p : Int) ∧ ((LL s n).set p ⟨false, 0, 1⟩)[p]? = some ⟨false, 0, 1⟩ ∧
    I.Live (((LL s n).set p ⟨false, 0, 1⟩).set p ⟨true, 7, 1 + 1⟩) p 2 p ⟨true, 7, 1 + 1⟩ ∧ (((LL s n).set p ⟨false, 0, 1⟩).set p ⟨true, 7, 1 + 1⟩).countP Cel.is = n := by
  have hps : p < s := by omega
  have e0 : (LL s n)[p]? = some ⟨true, p, 1⟩ := by rw [LL_at hps, if_pos hp]
  have e1 : ((LL s n).set p ⟨false, 0, 1⟩)[p]? = some ⟨false, 0, 1⟩ := List.getElem?_set_self (by rw [LL_len]; exact hps)
  refine ⟨⟨rfl, e0, rfl, rfl⟩, .inl ⟨p, _, rfl, e1, rfl, fun j hj d hd => ?_⟩, e1, ⟨rfl, List.getElem?_set_self (by simp [LL_len]; exact hps), rfl, rfl⟩, ?_⟩
  · rw [List.getElem?_set_ne (by omega), LL_at (by omega), if_pos (by omega)] at hd
    cases hd
    rfl
  · rw [List.set_set]
    have : ∀ (l : List (Cel Int)) (p : Nat) (c d : Cel Int), l[p]? = some c → c.is = d.is → (l.set p d).countP Cel.is = l.countP Cel.is := by
      intro l
      induction l with
      | nil => intro p c d h; simp at h
      | cons a l ih =>
        intro p c d h hc
        cases p with
        | zero => simp at h; subst h; simp [List.countP_cons, hc]
        | succ p => simp at h; simp [List.countP_cons, ih p c d h hc]
    rw [this (LL s n) p ⟨true, p, 1⟩ ⟨true, 7, 1 + 1⟩ e0 rfl, LL_count hn]

theorem grown_mod {g : Nat} {w w' : World} (h : Mod (· = g) w w') : w.grownBy w' (some g) := ⟨h.os, h.tape, h.output, h.size, fun k hk hn => h.block k hk (fun e => hn (by rw [e]))⟩
theorem grown_below {w w' : World} (h : Below w.heap.size w w') : w.grownBy w' none := ⟨h.os, h.tape, h.output, h.size, fun k hk _ => h.block k hk⟩

/-- What stands at the head of a round. -/
structure Rel (w : World) (b g base s k : Nat) (v : Value) (wr : World) : Prop where
  sa : SlabAt (fun x : Int => (.int .i64 x)) 69 66 wr b g (LL s k)
  own : wr.ownsRow base 31 2 v k (RR k)
  ge : base ≤ wr.heap.size
  mod : Mod (fun i => w.heap.size ≤ i) w wr

theorem least_out (s takes free : Int) (w : World) (h : s < 1 ∨ 200 < s) :
    Calls Try.prog 3 #[.int .i64 s, .int .i64 takes, .int .i64 free] w fun e w' => e = .returned (.bool true) ∧ Below w.heap.size w w' := by
  go_enter Try.func3, Try.ntmps3
  by_cases h1 : s < 1
  · clear h
    go_wp2_with fail
    refine (awake_any _).mono ?_
    rintro e w1 ⟨rfl, hB⟩
    go_wp2
    go_ret
    exact ⟨rfl, hB⟩
  · have h2 : 200 < s := by omega
    clear h
    go_wp2_with fail
    refine (awake_any _).mono ?_
    rintro e w1 ⟨rfl, hB⟩
    go_wp2
    go_ret
    exact ⟨rfl, hB⟩

set_option maxRecDepth 100000 in
set_option maxHeartbeats 2000000 in
theorem least_in (s : Nat) (takes free : Int) (w : World) (hs1 : 1 ≤ s) (hs2 : s ≤ 200) :
    Calls Try.prog 3 #[.int .i64 s, .int .i64 takes, .int .i64 free] w fun e w' => e = .returned (.bool true) ∧ Below w.heap.size w w' := by
  obtain ⟨it, hit, hz, hsz, hby⟩ := info_parts (P := Try.prog) (e := 31) (z := .agg #[.int .i64 0, .int .u32 0]) (size := 2) (bytes := 16) (by kernel_rfl)
  have HI := hid hit
  have HZ := hid hz
  have HS := hid hsz
  have HY := hid hby
  clear hit hz hsz hby
  go_enter Try.func3, Try.ntmps3
  go_wp2_with fail
  refine (awake_any _).mono ?_
  rintro e w1 ⟨rfl, hB⟩
  have hM1 : Mod (fun i => w.heap.size ≤ i) w w1 := Mod.ofBelow hB
  clear hB
  go_wp2_with fail
  refine (I.new_any s _ hs1 (by omega)).mono ?_
  rintro e w2 ⟨b, g, rfl, hb, hg, h2, hB⟩
  rw [LL_zero] at h2
  have hM2 := mod_bel hM1 hB
  have hb : w.heap.size ≤ b := Nat.le_trans hM1.size hb
  have hg : w.heap.size ≤ g := Nat.le_trans hM1.size hg
  clear hB hM1
  go_wp2_with fail
  obtain ⟨n, hn⟩ : ∃ n : Nat, takes % ((s : Int) + 1) = n := ⟨(takes % ((s : Int) + 1)).toNat, by have := Int.emod_nonneg takes (b := (s : Int) + 1) (by omega); omega⟩
  have hns : n ≤ s := by have := Int.emod_lt_of_pos takes (b := (s : Int) + 1) (by omega); omega
  refine (pick_any takes (s + 1) n _ (by omega) (by omega) hn).mono ?_
  rintro e w3 ⟨rfl, rfl⟩
  have HR : Hid (Rel w b g w2.heap.size s 0 (.slice none 0 0) w2) := hid ⟨h2, World.ownsRow_nil _ _ _ _, Nat.le_refl _, hM2⟩
  have hbb := h2.blt
  have hgb := h2.glt
  have hmw := hM2.size
  generalize w2.heap.size = base at HR hbb hgb
  clear h2 hM2 hn
  go_wp2_with fail
  go_loopw [10, 11] (fun rv iv wr => ∃ (k : Nat) (v : Value), k ≤ n ∧ iv = .int .i64 k ∧ rv = v ∧ Rel w b g base s k v wr) (fun _ iv _ => n - (intOf iv).toNat)
  case atStart => exact ⟨0, _, Nat.zero_le _, rfl, rfl, HR.out⟩
  case round =>
    clear HR
    obtain ⟨k, _, hk, rfl, rfl, hP, hO, hge, hM⟩ := hrel
    by_cases hlt : k < n
    · have hks : k < s := by omega
      go_wp2_with fail
      refine (I.take_yes (k := k) (c := ⟨false, 0, 0⟩) (k : Int) _ hP (LL_first hks) (by rw [LL_at hks, if_neg (by omega)]) rfl).mono ?_
      rintro e w4 ⟨rfl, h4, hX⟩
      rw [LL_set hks] at h4
      have hM4 := mod_new hM hX hg
      have hne : u10.ownBlock = none ∨ u10.ownBlock ≠ some g := .inr fun e => by have := (hO.lt g e).1; omega
      have hO4 := hO.kept (grown_mod hX) hne
      have hge4 : base ≤ w4.heap.size := Nat.le_trans hge hX.size
      clear hP hO hge hM hX hne
      have hN := heap_new w4 (.cells #[.int .i64 k, .int .u32 1] 31)
      have n0 := cell_of hN 0
      have n1 := cell_of hN 1
      have hN2 := heap_new (w4.alloc (.cells #[.int .i64 k, .int .u32 1] 31)) (.cells #[.int .i64 k, .int .u32 1] 31)
      rw [show (w4.alloc (.cells #[.int .i64 k, .int .u32 1] 31)).heap.size = w4.heap.size + 1 by simp] at hN2
      have m0 := cell_of hN2 0
      have m1 := cell_of hN2 1
      have hO6 := hid ((hO4.alloc (.cells #[.int .i64 k, .int .u32 1] 31)).alloc (.cells #[.int .i64 k, .int .u32 1] 31))
      have hnews : ∀ j u, [Value.int .i64 (k : Int), Value.int .u32 1][j]? = some u → ((w4.alloc (.cells #[.int .i64 k, .int .u32 1] 31)).alloc (.cells #[.int .i64 k, .int .u32 1] 31)).cell? ((⟨w4.heap.size + 1, 0, none⟩ : Addr).add j) = some u := by
        intro j u hj
        rcases j with _ | _ | j
        · cases hj
          exact m0
        · cases hj
          exact m1
        · simp at hj
      have HW := hid hnews
      have h6 := hid ((h4.alloc (.cells #[.int .i64 k, .int .u32 1] 31)).alloc (.cells #[.int .i64 k, .int .u32 1] 31))
      have hM6 := hid ((hM4.alloc (.cells #[.int .i64 k, .int .u32 1] 31)).alloc (.cells #[.int .i64 k, .int .u32 1] 31))
      clear hnews hN hN2 m0 m1 hO4 h4 hM4
      go_wp2_with (at_builtin; go_loud (refine wpList_append_own _ rfl (.tmp 63) (.tmp 65) 28 rfl base 31 it _ 2 16 Try.underlying28 HI.out HZ.out HS.out HY.out rfl (by decide) u10 k (RR k) rfl hO6.out ⟨w4.heap.size + 1, 0, none⟩ 1 1 [.int .i64 k, .int .u32 1] rfl rfl HW.out (by simp [Value.oneCell']) (by simp [maxLen]; omega) (by omega) (by simp; omega) ?_))
      intro v2 w6 hO7 hgr _
      have hbn : some b ≠ u10.ownBlock := fun e => by have := (hO6.out.lt b e.symm).1; omega
      have hgn : some g ≠ u10.ownBlock := fun e => by have := (hO6.out.lt g e.symm).1; omega
      have hS : Mod (fun i => some i = u10.ownBlock) _ w6 := ⟨hgr.os, hgr.tape, hgr.output, hgr.size, fun k hk hn => hgr.block k hk hn⟩
      have hR : Hid (Rel w b g base s (k + 1) v2 w6) := hid ⟨h6.out.mod hS hbn hgn, by rw [RR_succ]; exact hO7, Nat.le_trans hge4 (Nat.le_trans (by simp; omega) hgr.size), hM6.out.trans hS fun i hi e => by have := (hO6.out.lt i e.symm).1; omega⟩
      clear hS hgr hO7 hO6 n0 n1
      go_wp2_with fail
      go_roundw
      case rel => exact ⟨k + 1, v2, by omega, by go_num, rfl, hR.out⟩
      case measure => simp [intOf]; omega
    · obtain rfl : k = n := by omega
      clear hlt
      by_cases h0 : k = 0
      · subst h0
        go_wp2_with fail
        refine (I.left_any _ hP).mono ?_
        rintro e w4 ⟨rfl, hX⟩
        rw [LL_room]
        go_wp2
        go_ret
        exact ⟨rfl, mod_end (mod_bel hM hX)⟩
      · rcases hO.2 with ⟨_, h⟩ | ⟨gr, cap, cur, rfl, hbr, hgc, hkc, hcm, hsz2, htk⟩
        · exact absurd h h0
        · obtain ⟨p, hp⟩ : ∃ p : Nat, free % (k : Int) = p := ⟨(free % (k : Int)).toNat, by have := Int.emod_nonneg free (b := (k : Int)) (by omega); omega⟩
          have hpk : p < k := by have := Int.emod_lt_of_pos free (b := (k : Int)) (by omega); omega
          obtain ⟨a1, a2, a3, a4, a5⟩ := after hns hpk
          have r0 := hO.cellAt (p * 2) (by omega)
          have r1 := hO.cellAt (p * 2 + 1) (by omega)
          rw [(RR_at hpk).1] at r0
          rw [(RR_at hpk).2] at r1
          have A1 := hid a1
          have A2 := hid a2
          have A3 := hid a3
          have A4 := hid a4
          have A5 := hid a5
          have HP := hid hP
          have HM := hid hM
          clear a1 a2 a3 a4 a5 hO hgc hsz2 htk hP hM hge
          go_wp2_with (go_at_call 9; refine (pick_any free k p _ (by omega) (by omega) hp).mono ?_; rintro e w3 ⟨rfl, rfl⟩)
          refine (I.free_live (p : Int) 1 _ HP.out A1.out).mono ?_
          rintro e w4 ⟨rfl, h4, hX⟩
          have hM4 := hid (mod_new HM.out hX hg)
          clear hX r0 r1 HP HM
          go_wp2_with fail
          refine (I.take_yes (k := p) (c := ⟨false, 0, 1⟩) 7 _ h4 A2.out A3.out rfl).mono ?_
          rintro e w5 ⟨rfl, h5, hX⟩
          have hN := heap_new w5 (.cells #[.int .i64 p, .int .u32 2] 31)
          have n0 := cell_of hN 0
          have n1 := cell_of hN 1
          have hM5 := hid ((mod_new hM4.out hX hg).alloc (.cells #[.int .i64 p, .int .u32 2] 31))
          have h5 := h5.alloc (.cells #[.int .i64 p, .int .u32 2] 31)
          clear hX hM4 h4 A1 A2 A3
          go_wp2_with fail
          refine (I.get_live (p : Int) 2 _ h5 A4.out).mono ?_
          rintro e w6 ⟨rfl, hX⟩
          have h6 := h5.keep hX
          have hM6 := hid (mod_bel hM5.out hX)
          have hN6 := blk_below hN hX (by simp)
          clear n0 n1 hN hX h5 hM5
          have n0 := cell_of hN6 0
          have n1 := cell_of hN6 1
          have HL := hid (I.len_any _ h6)
          rw [A5.out] at HL
          go_wp2_with (go_at_call 14; refine HL.out.mono ?_; rintro e w7 ⟨rfl, hX7⟩)
          go_ret
          exact ⟨rfl, mod_end (mod_bel hM6.out hX7)⟩

theorem least_any (s takes free : Int) (w : World) :
    Calls Try.prog 3 #[.int .i64 s, .int .i64 takes, .int .i64 free] w fun e w' => e = .returned (.bool true) ∧ Below w.heap.size w w' := by
  by_cases h : s < 1 ∨ 200 < s
  · exact least_out s takes free w h
  · obtain ⟨n, rfl⟩ : ∃ n : Nat, s = n := ⟨s.toNat, by omega⟩
    exact least_in n takes free w (by omega) (by omega)
end Go.Proofs.Ytmgiaedfonaefaa
