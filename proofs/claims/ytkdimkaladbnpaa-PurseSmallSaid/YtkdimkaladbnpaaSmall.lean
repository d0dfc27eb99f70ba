/- PurseSmall: the walk. -/
import Derived.Test.YtkdimkaladbnpaaCopyJ
import Derived.Test.YtkdimkaladbnpaaNone
namespace Go.Proofs.Ytkdimkaladbnpaa
open Go.ChangeShapes Go.WideShapes Go.ChangeAt Go.RowKit Go.Burg
open Go.Burg.Purse

theorem seven (j : Nat) (h : j < 7) : ∃ u, (#[.int .u64 0, .int .u64 1, .int .u64 2, .int .u64 9223372036854775807, .int .u64 9223372036854775808, .int .u64 18446744073709551614, .int .u64 18446744073709551615] : Array Value)[j]? = some (.int .u64 u) ∧ 0 ≤ u ∧ u ≤ big := by
  unfold big
  rcases j with _ | _ | _ | _ | _ | _ | _ | j
  · exact ⟨_, rfl, by omega, by omega⟩
  · exact ⟨_, rfl, by omega, by omega⟩
  · exact ⟨_, rfl, by omega, by omega⟩
  · exact ⟨_, rfl, by omega, by omega⟩
  · exact ⟨_, rfl, by omega, by omega⟩
  · exact ⟨_, rfl, by omega, by omega⟩
  · exact ⟨_, rfl, by omega, by omega⟩
  · omega
theorem nine (j : Nat) (h : j < 9) : ∃ u, (#[.int .i64 (-9223372036854775808), .int .i64 (-1), .int .i64 0, .int .i64 1, .int .i64 2, .int .i64 3, .int .i64 4, .int .i64 5, .int .i64 9223372036854775807] : Array Value)[j]? = some (.int .i64 u) := by
  rcases j with _ | _ | _ | _ | _ | _ | _ | _ | _ | j
  · exact ⟨_, rfl⟩
  · exact ⟨_, rfl⟩
  · exact ⟨_, rfl⟩
  · exact ⟨_, rfl⟩
  · exact ⟨_, rfl⟩
  · exact ⟨_, rfl⟩
  · exact ⟨_, rfl⟩
  · exact ⟨_, rfl⟩
  · exact ⟨_, rfl⟩
  · omega
/-- The amounts around the limits. -/
def g7 : Obj := .cells #[.int .u64 0, .int .u64 1, .int .u64 2, .int .u64 9223372036854775807, .int .u64 9223372036854775808, .int .u64 18446744073709551614, .int .u64 18446744073709551615] 22 (0, 0)
theorem seven_at {w : World} {gb : Nat} (h : w.heap[gb]? = some g7) (j : Nat) (hj : j < 7) : ∃ u, w.cell? ⟨gb, j, none⟩ = some (.int .u64 u) ∧ 0 ≤ u ∧ u ≤ big := by
  obtain ⟨u, h1, h2⟩ := seven j hj
  exact ⟨u, (cell_of h j).trans h1, h2⟩

set_option maxRecDepth 100000 in
set_option maxHeartbeats 4000000 in
theorem small_any (w : World) : Calls Try.prog 7 #[] w fun e w' => e = .returned (.bool true) ∧ Below w.heap.size w w' := by
  have HG : Hid ((w.alloc g7).heap[w.heap.size]? = some g7) := hid (heap_new w g7)
  have HB0 : Hid (Below w.heap.size w (w.alloc g7)) := hid ((Below.refl _ _).alloc (Nat.le_refl _) _)
  have hz0 : (w.alloc g7).heap.size = w.heap.size + 1 := by simp
  go_enter Try.func7, Try.ntmps7
  go_wp2_with fail
  have hg7 : g7 = .cells #[.int .u64 0, .int .u64 1, .int .u64 2, .int .u64 9223372036854775807, .int .u64 9223372036854775808, .int .u64 18446744073709551614, .int .u64 18446744073709551615] 22 (0, 0) := rfl
  rw [← hg7]
  generalize w.alloc g7 = W0 at *
  clear hg7
  have HZ0 := hid hz0
  have hgl : w.heap.size < W0.heap.size := by omega
  clear hz0
  go_loopw [2] (fun nv wr => ∃ n : Nat, n ≤ 49 ∧ nv = .int .i64 n ∧ Mod (fun i => W0.heap.size ≤ i) W0 wr) (fun nv _ => 49 - (intOf nv).toNat)
  case atStart => exact ⟨0, by omega, rfl, Mod.refl _ _⟩
  case round =>
    obtain ⟨n, hn, rfl, hM⟩ := hrel
    by_cases hlt : n < 49
    · have hdn : decide ((n : Int) < 49) = true := by simp; omega
      have HM := hid hM
      clear hM
      obtain ⟨wo, hwo⟩ : ∃ wo : World, wo = wr := ⟨_, rfl⟩
      subst hwo
      go_wp2_with fail
      go_loopw [3] (fun kv wr => ∃ k : Nat, k ≤ 2 ∧ kv = .int .i64 k ∧ Mod (fun i => W0.heap.size ≤ i) W0 wr) (fun kv _ => 2 - (intOf kv).toNat)
      case atStart => exact ⟨0, by omega, rfl, HM.out⟩
      case round =>
        clear HM
        obtain ⟨k, hk, rfl, hM⟩ := hrel
        by_cases hk2 : k < 2
        · skip
          by_cases hk1 : k = 1
          · have b1 : ((k : Int) == 1) = true := by simp; omega
            obtain ⟨lk, x1, y1, z1⟩ := seven_at HG.out (n % 7) (by omega)
            obtain ⟨lb, x2, y2, z2⟩ := seven_at HG.out (n / 7) (by omega)
            have hold : ∀ j, wr.cell? ⟨w.heap.size, j, none⟩ = W0.cell? ⟨w.heap.size, j, none⟩ := fun j => World.cell?_of_block (w := W0) (hM.block w.heap.size hgl (by omega))
            have hgw := hM.size
            have hA := heap_new wr (.cells #[.int .u64 ((n : Int) % 4), .int .u64 ((n : Int) / 4 % 4)] 24)
            have hMA : Mod (fun i => W0.heap.size ≤ i) W0 (wr.alloc (.cells #[.int .u64 ((n : Int) % 4), .int .u64 ((n : Int) / 4 % 4)] 24)) := hM.alloc _
            have v1 : (wr.alloc (.cells #[.int .u64 ((n : Int) % 4), .int .u64 ((n : Int) / 4 % 4)] 24)).cell? ⟨w.heap.size, n % 7, none⟩ = some (.int .u64 lk) := (World.cell?_of_block (w := wr) (Below.heap_alloc wr _ w.heap.size (show w.heap.size < wr.heap.size by omega))).trans ((hold _).trans x1)
            have v2 : (wr.alloc (.cells #[.int .u64 ((n : Int) % 4), .int .u64 ((n : Int) / 4 % 4)] 24)).cell? ⟨w.heap.size, n / 7, none⟩ = some (.int .u64 lb) := (World.cell?_of_block (w := wr) (Below.heap_alloc wr _ w.heap.size (show w.heap.size < wr.heap.size by omega))).trans ((hold _).trans x2)
            have hi0 : Inv (St.new lk lb) := Inv.new y1 z1 y2 z2
            have q1 : (n : Int).tmod 7 = (n : Int) % 7 := Int.tmod_eq_emod_of_nonneg (by omega)
            have q2 : (n : Int).tdiv 7 = (n : Int) / 7 := Int.tdiv_eq_ediv_of_nonneg (by omega)
            have q3 : IntKind.i64.wrap ((n : Int) / 7) = (n : Int) / 7 := IntWalk.i64_in _ (by omega)
            have p1 : (0 : Int) ≤ (n : Int) % 7 := by omega
            have p2 : (n : Int) % 7 < 7 := by omega
            have p3 : (0 : Int) ≤ (n : Int) / 7 := by omega
            have p4 : (n : Int) / 7 < 7 := by omega
            have p5 : ((n : Int) % 7).toNat = n % 7 := by omega
            have p6 : ((n : Int) / 7).toNat = n / 7 := by omega
            clear hM hk1 hold x1 x2 y1 z1 y2 z2
            go_wp2_with fail
            generalize wr.alloc (.cells #[.int .u64 ((n : Int) % 4), .int .u64 ((n : Int) / 4 % 4)] 24) = WA at *
            have l0 := cell_of hA 0
            have l1 := cell_of hA 1
            have lf := free_of hA
            have hlA := lt_of_block hA
            go_still_tail 11, (by kernel_rfl)
            go_wp2_with fail
            have hlim : ((WA.setCell ⟨wr.heap.size, 0, none⟩ (.int .u64 lk)).setCell ⟨wr.heap.size, 1, none⟩ (.int .u64 lb)).drew.heap[wr.heap.size]? = some (.cells #[.int .u64 lk, .int .u64 lb] 24) := (heap_set (heap_set hA)).trans (by simp)
            have hML : Mod (fun i => W0.heap.size ≤ i) W0 ((WA.setCell ⟨wr.heap.size, 0, none⟩ (.int .u64 lk)).setCell ⟨wr.heap.size, 1, none⟩ (.int .u64 lb)).drew := ((hMA.setCell (.inl hgw) _).setCell (.inl hgw) _).drew
            clear q1 q2 q3 v1 v2 p1 p2 p3 p4 p5 p6 hA hMA l0 l1 lf
            generalize ((WA.setCell ⟨wr.heap.size, 0, none⟩ (.int .u64 lk)).setCell ⟨wr.heap.size, 1, none⟩ (.int .u64 lb)).drew = WL at *
            refine (new_at lk lb _).mono ?_
            rintro e w2 ⟨b, m, rfl, hP, hb1, hm1, hX⟩
            have hN2 := blk_below hlim hX (lt_of_block hlim)
            have n0 := cell_of hN2 0
            have n1 := cell_of hN2 1
            have hlt2 := lt_of_block hN2
            obtain ⟨lb2, lm2⟩ := hP.lt
            have hl3 := lt_of_block hlim
            have HS : Hid (PS W0 b m w2.heap.size (St.new lk lb) #[.int .u64 lk, .int .u64 lb, .int .u64 0, .int .u64 0, .slice none 0 0] (.slice none 0 0) [] (w2.alloc (.cells #[.int .u64 lk, .int .u64 lb, .int .u64 0, .int .u64 0, .slice none 0 0] 39))) :=
              hid ⟨hP.alloc _, heap_new _ _, (TkAt.nil w2).alloc _, (mod_bel hML hX).alloc _, by omega, by omega, by omega, by omega, by omega⟩
            have HI0 := hid hi0
            clear hP hX hN2 hML hlim hi0
            go_wp2_with fail
            generalize w2.alloc (.cells #[.int .u64 lk, .int .u64 lb, .int .u64 0, .int .u64 0, .slice none 0 0] 39) = W3 at *
            generalize w2.heap.size = mb at *
            clear n0 n1
            go_loopw [7] (fun iv wr => ∃ (i : Nat) (s : St) (r : RSt) (v : Value), i ≤ 60 ∧ iv = .int .i64 i ∧ Inv s ∧ Goes s r ∧ s.last ≤ i ∧ PS W0 b m mb s #[.int .u64 r.xk, .int .u64 r.xb, .int .u64 r.hk, .int .u64 r.hb, v] v r.T wr) (fun iv _ => 60 - (intOf iv).toNat)
            case atStart => exact ⟨0, _, ⟨lk, lb, 0, 0, []⟩, .slice none 0 0, by omega, rfl, HI0.out, Goes.new _ _, Int.le_refl _, HS.out⟩
            case round =>
              clear HS HI0
              obtain ⟨i, s, r, v, hi, rfl, hinv, hg, hl, hS⟩ := hrel
              obtain ⟨av, cv, rfl, _⟩ := hS.tk.form
              have hlT := hg.last
              have HG1 := hid hg
              have HI1 := hid hinv
              have HL1 := hid hlT
              have HS := hid hS
              have hwm := hS.mod.size
              clear hg hinv hlT hS
              by_cases hi60 : i < 60
              rotate_left
              · skip
                have HMQ := hid HS.out.mod
                go_wp2_with fail
                go_roundw
                case rel => exact ⟨k + 1, by omega, by go_num, HMQ.out⟩
                case measure => simp [intOf]; omega
              obtain ⟨kk, x1, y1, z1⟩ := seven_at HG.out ((i + n) % 7) (by omega)
              obtain ⟨yy, x2, y2, z2⟩ := seven_at HG.out ((i * 3 + n) % 7) (by omega)
              have v1 := (HS.out.old hgl ((i + n) % 7)).trans x1
              have v2 := (HS.out.old hgl ((i * 3 + n) % 7)).trans x2
              have hg2 : w.heap.size < wr.heap.size := by omega
              have hg3 : w.heap.size < wr.heap.size + 1 := by omega
              clear x1 x2
              obtain ⟨t, ht⟩ := nine (i % 9) (by omega)
              have mx := HS.out.mbox
              have a0 := cell_of mx 0
              have a1 := cell_of mx 1
              have a2 := cell_of mx 2
              have a3 := cell_of mx 3
              have a4 := cell_of mx 4
              have hlx := lt_of_block mx
              clear mx
              skip
              go_wp2_with fail
              clear ht a0 a1 a2 a3 a4
              clear v1 v2
              obtain ⟨r', hr'⟩ : ∃ r', r.act ((((i : Int) * 5 + (n : Int)) % 6) % 6) t kk yy = r' := ⟨_, rfl⟩
              obtain ⟨s', hs'⟩ : ∃ s', (s.act ((((i : Int) * 5 + (n : Int)) % 6) % 6) t kk yy).2.2 = s' := ⟨_, rfl⟩
              have hg' := HG1.out.act HI1.out (k := kk) (y := yy) (by omega) (by omega) ((((i : Int) * 5 + (n : Int)) % 6) % 6) t
              have hi' := HI1.out.act (k := kk) (y := yy) (by omega) (by omega) ((((i : Int) * 5 + (n : Int)) % 6) % 6) t
              have hl' := (max_act HI1.out ((((i : Int) * 5 + (n : Int)) % 6) % 6) t kk yy).2
              have hlb := HL1.out
              have hS2 := (HS.out.alloc (.cells #[.int .i64 (-9223372036854775808), .int .i64 (-1), .int .i64 0, .int .i64 1, .int .i64 2, .int .i64 3, .int .i64 4, .int .i64 5, .int .i64 9223372036854775807] 3)).alloc (.cells #[.int .i64 (((i : Int) * 5 + (n : Int)) % 6), .int .i64 t, .int .u64 kk, .int .u64 yy] 33)
              have HQ := does_at hS2.pu HI1.out (by omega) HG1.out hS2.tk (((i : Int) * 5 + (n : Int)) % 6) t kk yy (by omega) (by omega)
              rw [hr', hs'] at HQ hg'
              rw [hs'] at hi' hl'
              refine HQ.mono ?_
              rintro e w3 ⟨v', rfl, hP3, hT3, hM3⟩
              have hP4 := hS2.turn hP3 hT3 hM3
              obtain ⟨av', cv', rfl, _⟩ := hT3.form
              have mx := hP4.mbox
              have m0 := cell_of mx 0
              have m1 := cell_of mx 1
              have m2 := cell_of mx 2
              have m3 := cell_of mx 3
              have m4 := cell_of mx 4
              have mf := free_of mx
              have hml := lt_of_block mx
              have HP5 := hid ((((((hP4.set 0 (.int .u64 r'.xk)).set 1 (.int .u64 r'.xb)).set 2 (.int .u64 r'.hk)).set 3 (.int .u64 r'.hb)).set 4 (.slice av' r'.T.length cv')).alloc (.cells #[.int .u64 r'.xk, .int .u64 r'.xb, .int .u64 r'.hk, .int .u64 r'.hb, (.slice av' r'.T.length cv')] 39))
              have HG' := hid hg'
              have HI' := hid hi'
              have HL' := hid hl'
              clear hr' hs' hg' hi' hl' hlb hS2 HQ hP3 hT3 hM3 hP4 mx
              go_wp2_with fail
              have hl2 := HG'.out.last
              have hl3 := HL'.out
              refine (looks_at HP5.out.pu HI'.out HG'.out HP5.out.tk (by omega)).mono ?_
              rintro e w4 ⟨rfl, hB⟩
              have HS4 := hid (HP5.out.keep hB)
              clear hB hl2 hl3
              go_wp2_with fail
              go_roundw
              case rel => exact ⟨i + 1, s', r', _, by omega, by go_num, HI'.out, HG'.out, (by have := HL'.out; omega), HS4.out⟩
              case measure => simp [intOf]; omega
          · have b1 : ((k : Int) == 1) = false := by simp; omega
            have hlim : (wr.alloc (.cells #[.int .u64 ((n : Int) % 4), .int .u64 ((n : Int) / 4 % 4)] 24)).heap[wr.heap.size]? = some (.cells #[.int .u64 ((n : Int) % 4), .int .u64 ((n : Int) / 4 % 4)] 24) := heap_new _ _
            have hML : Mod (fun i => W0.heap.size ≤ i) W0 (wr.alloc (.cells #[.int .u64 ((n : Int) % 4), .int .u64 ((n : Int) / 4 % 4)] 24)) := hM.alloc _
            have hi0 : Inv (St.new ((n : Int) % 4) ((n : Int) / 4 % 4)) := Inv.new (by omega) (by unfold big; omega) (by omega) (by unfold big; omega)
            have hgw := hM.size
            clear hM hk1
            go_wp2_with fail
            generalize wr.alloc (.cells #[.int .u64 ((n : Int) % 4), .int .u64 ((n : Int) / 4 % 4)] 24) = WL at *
            refine (new_at ((n : Int) % 4) ((n : Int) / 4 % 4) _).mono ?_
            rintro e w2 ⟨b, m, rfl, hP, hb1, hm1, hX⟩
            have hN2 := blk_below hlim hX (lt_of_block hlim)
            have n0 := cell_of hN2 0
            have n1 := cell_of hN2 1
            have hlt2 := lt_of_block hN2
            obtain ⟨lb2, lm2⟩ := hP.lt
            have hl3 := lt_of_block hlim
            have HS : Hid (PS W0 b m w2.heap.size (St.new ((n : Int) % 4) ((n : Int) / 4 % 4)) #[.int .u64 ((n : Int) % 4), .int .u64 ((n : Int) / 4 % 4), .int .u64 0, .int .u64 0, .slice none 0 0] (.slice none 0 0) [] (w2.alloc (.cells #[.int .u64 ((n : Int) % 4), .int .u64 ((n : Int) / 4 % 4), .int .u64 0, .int .u64 0, .slice none 0 0] 39))) :=
              hid ⟨hP.alloc _, heap_new _ _, (TkAt.nil w2).alloc _, (mod_bel hML hX).alloc _, by omega, by omega, by omega, by omega, by omega⟩
            have HI0 := hid hi0
            clear hP hX hN2 hML hlim hi0
            go_wp2_with fail
            generalize w2.alloc (.cells #[.int .u64 ((n : Int) % 4), .int .u64 ((n : Int) / 4 % 4), .int .u64 0, .int .u64 0, .slice none 0 0] 39) = W3 at *
            generalize w2.heap.size = mb at *
            clear n0 n1
            go_loopw [7] (fun iv wr => ∃ (i : Nat) (s : St) (r : RSt) (v : Value), i ≤ 60 ∧ iv = .int .i64 i ∧ Inv s ∧ Goes s r ∧ s.last ≤ i ∧ PS W0 b m mb s #[.int .u64 r.xk, .int .u64 r.xb, .int .u64 r.hk, .int .u64 r.hb, v] v r.T wr) (fun iv _ => 60 - (intOf iv).toNat)
            case atStart => exact ⟨0, _, ⟨((n : Int) % 4), ((n : Int) / 4 % 4), 0, 0, []⟩, .slice none 0 0, by omega, rfl, HI0.out, Goes.new _ _, Int.le_refl _, HS.out⟩
            case round =>
              clear HS HI0
              obtain ⟨i, s, r, v, hi, rfl, hinv, hg, hl, hS⟩ := hrel
              obtain ⟨av, cv, rfl, _⟩ := hS.tk.form
              have hlT := hg.last
              have HG1 := hid hg
              have HI1 := hid hinv
              have HL1 := hid hlT
              have HS := hid hS
              have hwm := hS.mod.size
              clear hg hinv hlT hS
              by_cases hi60 : i < 60
              rotate_left
              · skip
                have HMQ := hid HS.out.mod
                go_wp2_with fail
                go_roundw
                case rel => exact ⟨k + 1, by omega, by go_num, HMQ.out⟩
                case measure => simp [intOf]; omega
              obtain ⟨t, ht⟩ := nine (i % 9) (by omega)
              have mx := HS.out.mbox
              have a0 := cell_of mx 0
              have a1 := cell_of mx 1
              have a2 := cell_of mx 2
              have a3 := cell_of mx 3
              have a4 := cell_of mx 4
              have hlx := lt_of_block mx
              clear mx
              skip
              go_wp2_with fail
              clear ht a0 a1 a2 a3 a4
              obtain ⟨r', hr'⟩ : ∃ r', r.act ((((i : Int) * 5 + (n : Int)) % 6) % 6) t ((i : Int) % 3) ((i : Int) / 3 % 3) = r' := ⟨_, rfl⟩
              obtain ⟨s', hs'⟩ : ∃ s', (s.act ((((i : Int) * 5 + (n : Int)) % 6) % 6) t ((i : Int) % 3) ((i : Int) / 3 % 3)).2.2 = s' := ⟨_, rfl⟩
              have hg' := HG1.out.act HI1.out (k := ((i : Int) % 3)) (y := ((i : Int) / 3 % 3)) (by omega) (by omega) ((((i : Int) * 5 + (n : Int)) % 6) % 6) t
              have hi' := HI1.out.act (k := ((i : Int) % 3)) (y := ((i : Int) / 3 % 3)) (by omega) (by omega) ((((i : Int) * 5 + (n : Int)) % 6) % 6) t
              have hl' := (max_act HI1.out ((((i : Int) * 5 + (n : Int)) % 6) % 6) t ((i : Int) % 3) ((i : Int) / 3 % 3)).2
              have hlb := HL1.out
              have hS2 := (HS.out.alloc (.cells #[.int .i64 (-9223372036854775808), .int .i64 (-1), .int .i64 0, .int .i64 1, .int .i64 2, .int .i64 3, .int .i64 4, .int .i64 5, .int .i64 9223372036854775807] 3)).alloc (.cells #[.int .i64 (((i : Int) * 5 + (n : Int)) % 6), .int .i64 t, .int .u64 ((i : Int) % 3), .int .u64 ((i : Int) / 3 % 3)] 33)
              have HQ := does_at hS2.pu HI1.out (by omega) HG1.out hS2.tk (((i : Int) * 5 + (n : Int)) % 6) t ((i : Int) % 3) ((i : Int) / 3 % 3) (by omega) (by omega)
              rw [hr', hs'] at HQ hg'
              rw [hs'] at hi' hl'
              refine HQ.mono ?_
              rintro e w3 ⟨v', rfl, hP3, hT3, hM3⟩
              have hP4 := hS2.turn hP3 hT3 hM3
              obtain ⟨av', cv', rfl, _⟩ := hT3.form
              have mx := hP4.mbox
              have m0 := cell_of mx 0
              have m1 := cell_of mx 1
              have m2 := cell_of mx 2
              have m3 := cell_of mx 3
              have m4 := cell_of mx 4
              have mf := free_of mx
              have hml := lt_of_block mx
              have HP5 := hid ((((((hP4.set 0 (.int .u64 r'.xk)).set 1 (.int .u64 r'.xb)).set 2 (.int .u64 r'.hk)).set 3 (.int .u64 r'.hb)).set 4 (.slice av' r'.T.length cv')).alloc (.cells #[.int .u64 r'.xk, .int .u64 r'.xb, .int .u64 r'.hk, .int .u64 r'.hb, (.slice av' r'.T.length cv')] 39))
              have HG' := hid hg'
              have HI' := hid hi'
              have HL' := hid hl'
              clear hr' hs' hg' hi' hl' hlb hS2 HQ hP3 hT3 hM3 hP4 mx
              go_wp2_with fail
              have hl2 := HG'.out.last
              have hl3 := HL'.out
              refine (looks_at HP5.out.pu HI'.out HG'.out HP5.out.tk (by omega)).mono ?_
              rintro e w4 ⟨rfl, hB⟩
              have HS4 := hid (HP5.out.keep hB)
              clear hB hl2 hl3
              go_wp2_with fail
              go_roundw
              case rel => exact ⟨i + 1, s', r', _, by omega, by go_num, HI'.out, HG'.out, (by have := HL'.out; omega), HS4.out⟩
              case measure => simp [intOf]; omega
        · go_wp2_with fail
          go_roundw
          case rel => exact ⟨n + 1, by omega, by go_num, hM⟩
          case measure => simp [intOf]; omega
    · as_aux_lemma =>
        go_wp2_with fail
        have hpb := blk_alloc (o' := (.cells #[.pointer none, .pointer (some ⟨wr.heap.size, 0, none⟩)] 27)) (heap_new wr (.cells #[.int .u64 0, .int .u64 0, .int .u64 0, .int .u64 0, .int .u64 0, .int .u64 0, .map none, .int .i64 0] 54))
        have hls : ((wr.alloc (.cells #[.int .u64 0, .int .u64 0, .int .u64 0, .int .u64 0, .int .u64 0, .int .u64 0, .map none, .int .i64 0] 54)).alloc (.cells #[.pointer none, .pointer (some ⟨wr.heap.size, 0, none⟩)] 27)).heap[wr.heap.size + 1]? = some (.cells #[.pointer none, .pointer (some ⟨wr.heap.size, 0, none⟩)] 27) := heap_at (.cells #[.pointer none, .pointer (some ⟨wr.heap.size, 0, none⟩)] 27) (by simp)
        have hMB : Mod (fun i => W0.heap.size ≤ i) W0 ((wr.alloc (.cells #[.int .u64 0, .int .u64 0, .int .u64 0, .int .u64 0, .int .u64 0, .int .u64 0, .map none, .int .i64 0] 54)).alloc (.cells #[.pointer none, .pointer (some ⟨wr.heap.size, 0, none⟩)] 27)) := (hM.alloc _).alloc _
        generalize (wr.alloc (.cells #[.int .u64 0, .int .u64 0, .int .u64 0, .int .u64 0, .int .u64 0, .int .u64 0, .map none, .int .i64 0] 54)).alloc (.cells #[.pointer none, .pointer (some ⟨wr.heap.size, 0, none⟩)] 27) = WB at *
        generalize wr.heap.size = pb at *
        have HPB := hid hpb
        have HLS := hid hls
        have HMB := hid hMB
        have hl1 := lt_of_block hls
        clear hpb hls hMB hM
        go_loopw [12] (fun iv wr => ∃ i : Nat, i ≤ 2 ∧ iv = .int .i64 i ∧ Below WB.heap.size WB wr) (fun iv _ => 2 - (intOf iv).toNat)
        case atStart => exact ⟨0, by omega, rfl, Below.refl _ _⟩
        case round =>
          obtain ⟨i, hi, rfl, hB⟩ := hrel
          have hl := blk_below HLS.out hB hl1
          have HB := hid hB
          by_cases hi2 : i < 2
          · by_cases hi0 : i = 0
            · subst hi0
              have c0 := cell_of hl 0
              have HQ : Hid (NoP wr none) := hid (.inl rfl)
              clear hB hl
              go_wp2_with fail
              refine (reserve_none HQ.out 0 0).mono ?_
              rintro e w1 ⟨rfl, hB⟩
              have HQ1 : Hid (NoP (w1.alloc (.cells #[.int .u64 0, .int .u64 0] 24)) none) := hid ((HQ.out.keep hB).alloc _)
              have HZ : Hid ((w1.alloc (.cells #[.int .u64 0, .int .u64 0] 24)).heap[w1.heap.size]? = some (.cells #[.int .u64 0, .int .u64 0] 24)) := hid (heap_new _ _)
              have HB1 : Hid (Below WB.heap.size WB (w1.alloc (.cells #[.int .u64 0, .int .u64 0] 24))) := hid ((HB.out.trans (hB.mono HB.out.size)).alloc (Nat.le_trans HB.out.size hB.size) _)
              have hsz : w1.heap.size < (w1.alloc (.cells #[.int .u64 0, .int .u64 0] 24)).heap.size := by simp
              clear hB
              go_wp2_with fail
              generalize w1.alloc (.cells #[.int .u64 0, .int .u64 0] 24) = W2 at *
              refine wp_region_seq 54 (fun w1 => Below (W2).heap.size (W2) w1) (by kernel_rfl) (by kernel_rfl) (by kernel_rfl) ⟨rfl, rfl, rfl, Nat.le_refl _, fun _ _ => rfl⟩ ?_
              dsimp only [List.take]
              iterate 54
                refine Seq.cons (a' := ?_) ?_ ?_ ?_
                rotate_left
                ·
                  intro w1 hw1
                  have hq := HQ1.out.keep hw1
                  have hz := blk_below HZ.out hw1 hsz
                  have z0 := cell_of hz 0
                  have z1 := cell_of hz 1
                  clear hz
                  go_wp2_with (first | (go_at_call 13; refine (commit_nop hq 1).mono ?_; rintro e w' ⟨rfl, hb⟩) | (go_at_call 14; refine (refund_nop hq 1).mono ?_; rintro e w' ⟨rfl, hb⟩) | (go_at_call 22; refine (take_none hq 0 0).mono ?_; rintro e w' ⟨rfl, hb⟩) | (go_at_call 23; refine (pay_none hq 0 0).mono ?_; rintro e w' ⟨rfl, hb⟩) | (go_at_call 17; refine (has_nop hq).mono ?_; rintro e w' ⟨rfl, hb⟩) | (go_at_call 18; refine (bound_nop hq).mono ?_; rintro e w' ⟨rfl, hb⟩) | (go_at_call 20; refine (left_nop hq).mono ?_; rintro e w' ⟨rfl, hb⟩) | (go_at_call 19; refine (open_nop hq).mono ?_; rintro e w' ⟨rfl, rfl⟩) | (go_at_call 21; refine (copy_nop hq).mono ?_; rintro e w' ⟨rfl, rfl⟩))
                  refine ⟨?_, by first | assumption | (simpa using below_chain hw1 hb hw1.size)⟩
                  exact rfl
                · kernel_rfl
              refine SeqI.nil ?_
              intro _ w1 _ hw1
              dsimp only [List.drop]
              go_wp2_with fail
              go_roundw
              case rel => exact ⟨1, by omega, by first | rfl | go_num, HB1.out.trans (hw1.mono HB1.out.size)⟩
              case measure => simp [intOf]
            · obtain rfl : i = 1 := by omega
              have c0 := cell_of hl 1
              have HQ : Hid (NoP wr (some ⟨pb, 0, none⟩)) := hid (.inr ⟨pb, rfl, blk_below HPB.out hB (lt_of_block HPB.out)⟩)
              clear hB hl
              go_wp2_with fail
              refine (reserve_none HQ.out 0 0).mono ?_
              rintro e w1 ⟨rfl, hB⟩
              have HQ1 : Hid (NoP (w1.alloc (.cells #[.int .u64 0, .int .u64 0] 24)) (some ⟨pb, 0, none⟩)) := hid ((HQ.out.keep hB).alloc _)
              have HZ : Hid ((w1.alloc (.cells #[.int .u64 0, .int .u64 0] 24)).heap[w1.heap.size]? = some (.cells #[.int .u64 0, .int .u64 0] 24)) := hid (heap_new _ _)
              have HB1 : Hid (Below WB.heap.size WB (w1.alloc (.cells #[.int .u64 0, .int .u64 0] 24))) := hid ((HB.out.trans (hB.mono HB.out.size)).alloc (Nat.le_trans HB.out.size hB.size) _)
              have hsz : w1.heap.size < (w1.alloc (.cells #[.int .u64 0, .int .u64 0] 24)).heap.size := by simp
              clear hB
              go_wp2_with fail
              generalize w1.alloc (.cells #[.int .u64 0, .int .u64 0] 24) = W2 at *
              refine wp_region_seq 54 (fun w1 => Below (W2).heap.size (W2) w1) (by kernel_rfl) (by kernel_rfl) (by kernel_rfl) ⟨rfl, rfl, rfl, Nat.le_refl _, fun _ _ => rfl⟩ ?_
              dsimp only [List.take]
              iterate 54
                refine Seq.cons (a' := ?_) ?_ ?_ ?_
                rotate_left
                ·
                  intro w1 hw1
                  have hq := HQ1.out.keep hw1
                  have hz := blk_below HZ.out hw1 hsz
                  have z0 := cell_of hz 0
                  have z1 := cell_of hz 1
                  clear hz
                  go_wp2_with (first | (go_at_call 13; refine (commit_nop hq 1).mono ?_; rintro e w' ⟨rfl, hb⟩) | (go_at_call 14; refine (refund_nop hq 1).mono ?_; rintro e w' ⟨rfl, hb⟩) | (go_at_call 22; refine (take_none hq 0 0).mono ?_; rintro e w' ⟨rfl, hb⟩) | (go_at_call 23; refine (pay_none hq 0 0).mono ?_; rintro e w' ⟨rfl, hb⟩) | (go_at_call 17; refine (has_nop hq).mono ?_; rintro e w' ⟨rfl, hb⟩) | (go_at_call 18; refine (bound_nop hq).mono ?_; rintro e w' ⟨rfl, hb⟩) | (go_at_call 20; refine (left_nop hq).mono ?_; rintro e w' ⟨rfl, hb⟩) | (go_at_call 19; refine (open_nop hq).mono ?_; rintro e w' ⟨rfl, rfl⟩) | (go_at_call 21; refine (copy_nop hq).mono ?_; rintro e w' ⟨rfl, rfl⟩))
                  refine ⟨?_, by first | assumption | (simpa using below_chain hw1 hb hw1.size)⟩
                  exact rfl
                · kernel_rfl
              refine SeqI.nil ?_
              intro _ w1 _ hw1
              dsimp only [List.drop]
              go_wp2_with fail
              go_roundw
              case rel => exact ⟨2, by omega, by first | rfl | go_num, HB1.out.trans (hw1.mono HB1.out.size)⟩
              case measure => simp [intOf]
          · clear hB hl
            go_wp2_with fail
            refine (awake_any _).mono ?_
            rintro e w1 ⟨rfl, hB⟩
            go_wp2_with fail
            go_ret
            have h1 := HMB.out.trans (S' := fun _ => False) (Mod.ofBelow (HB.out.trans (hB.mono HB.out.size))) (fun _ _ h => h.elim)
            refine ⟨rfl, HB0.out.trans (h1.below (Nat.le_of_lt hgl) fun i hi hh => by omega)⟩
end Go.Proofs.Ytkdimkaladbnpaa
