/- The table: awake. -/
import Derived.Test.YtgdmfledhhoedaaT8
import Derived.Test.YtgdmfledhhoedaaT9
import Derived.Test.YtgdmfledhhoedaaTE
namespace Go.Proofs.Ytgdmfledhhoedaa.T
set_option maxRecDepth 8000
open Go.ChangeShapes Go.WideShapes Go.ChangeAt Go.RowKit Go.Burg
open Go.Burg.Lk
open Go.Burg.Purse (St Inv)

theorem first0 {n : Nat} (hn : 0 < n) : First (List.replicate n (⟨false, Nd.zero, 0⟩ : Cel Nd)) ((0 : Nat) : Int) :=
  .inl ⟨0, ⟨false, Nd.zero, 0⟩, rfl, by simp [hn], rfl, fun j hj => absurd hj (Nat.not_lt_zero _)⟩
/-- The first Ref. -/
def ref01 : RefK := ⟨(0, 1), by decide⟩

/-- The purse, from deed to deed. -/
def S1 : St := St.new 2 9
def S2 : St := ⟨2, 9, 0, 0, 1, 9, 1, [(1, 1, 9)]⟩
def S3 : St := ⟨2, 9, 1, 9, 0, 0, 1, []⟩
def S4 : St := ⟨2, 9, 1, 9, 0, 0, 2, [(2, 0, 0)]⟩
def S5 : St := ⟨2, 9, 0, 5, 0, 0, 2, []⟩
theorem i1 : Inv S1 := Purse.Inv.new (by omega) (by unfold Purse.big; omega) (by omega) (by unfold Purse.big; omega)
theorem e1 : S1.res (max 1 0) (max 10 0) = (0, 10, S1) := if_neg (show ¬ ((max 1 0 : Int) ≤ 2 - (0 + 0) ∧ (max 10 0 : Int) ≤ 9 - (0 + 0)) by omega)
theorem e2 : S1.res (max 1 0) (max 9 0) = (1, 0, S2) := if_pos (show ((max 1 0 : Int) ≤ 2 - (0 + 0) ∧ (max 9 0 : Int) ≤ 9 - (0 + 0)) by omega)
theorem i2 : Inv S2 := by have := i1.res (k := max 1 0) (y := max 9 0) (by omega) (by omega); rwa [e2] at this
theorem e3 : comPay S2 1 0 0 = S3 := by
  have h1 : (S2.com 1).2 = S3 := rfl
  unfold comPay
  rw [h1]
  have h2 : S3.pay 0 0 = (0, S3) := if_pos (show ((0 : Int) ≤ 1 ∧ (0 : Int) ≤ 9) by omega)
  rw [h2]
theorem i3 : Inv S3 := i2.com 1
theorem e4 : S3.res (max (-1) 0) (max (-4) 0) = (2, 0, S4) := if_pos (show ((max (-1) 0 : Int) ≤ 2 - (1 + 0) ∧ (max (-4) 0 : Int) ≤ 9 - (9 + 0)) by omega)
theorem i4 : Inv S4 := by have := i3.res (k := max (-1) 0) (y := max (-4) 0) (by omega) (by omega); rwa [e4] at this
theorem e5 : comPay S4 2 1 4 = S5 := by
  have h1 : (S4.com 2).2 = ⟨2, 9, 1, 9, 0, 0, 2, []⟩ := rfl
  unfold comPay
  rw [h1]
  exact congrArg Prod.snd (if_pos (show ((1 : Int) ≤ 1 ∧ (4 : Int) ≤ 9) by omega))
/-- The tenants when awake has made its own. -/
def L1 (p : Nat) : Nat → Ten := upd (fun _ => Ten.zero) 3 ⟨1, 0, 1, some p⟩
theorem mod_below {S : Nat → Prop} {B : Nat} {w w1 w2 : World} (hB : Below B w w1) (hM : Mod S w1 w2) (hS : ∀ i, S i → B ≤ i) (hsz : B ≤ w1.heap.size) : Below B w w2 :=
  hB.trans ⟨hM.os, hM.tape, hM.output, hM.size, fun k hk => hM.block k (by omega) (fun h => by have := hS k h; omega)⟩

/-- .. and when its handles have been revoked. -/
def L2 (p : Nat) : Nat → Ten := upd (L1 p) 3 ⟨2, 0, 1, some p⟩
set_option maxHeartbeats 8000000 in
theorem awake_any (w : World) : Calls Try.prog 16 #[] w fun e w' => e = .returned (.bool true) ∧ Below w.heap.size w w' := by
  have HN := hid (tNew_at 4 w (by omega) (by omega))
  go_enter Try.func16, Try.ntmps16
  go_wp2_with fail
  refine HN.out.mono ?_
  rintro e w1 ⟨t, sb, sg, kb, km, rfl, hT, hl, hB⟩
  have HT1 := hid hT
  have HL := hid hl
  have HB1 := hid hB
  clear hT hl hB HN
  go_wp2_with fail
  refine (tabNew_at t w1).mono ?_
  rintro e w2 ⟨x, rfl, hX, hx, hB⟩
  have HX2 := hid hX
  have HT2 := hid (HT1.out.keep hB)
  have HXL := hid hx
  have HB2 := hid (below_chain HB1.out hB HB1.out.size)
  have HT1s : Hid (t < w1.heap.size ∧ sb < w1.heap.size ∧ sg < w1.heap.size ∧ kb < w1.heap.size ∧ km < w1.heap.size) := hid ⟨lt_of_block HT1.out.ht, HT1.out.hs.blt, HT1.out.hs.glt, HT1.out.hk.lt.1, HT1.out.hk.lt.2⟩
  have HB1s : Hid (w.heap.size ≤ w1.heap.size) := hid HB1.out.size
  clear hX hx hB HT1 HB1
  go_wp2_with fail
  have hxs : x ≠ t ∧ x ≠ sb ∧ x ≠ sg ∧ x ≠ kb ∧ x ≠ km := by
    have := HXL.out
    have g1 := HT1s.out
    omega
  refine (create_new (n := 3) (k := 0) (l := fun _ => Ten.zero) (c := ⟨false, Nd.zero, 0⟩) 2 9 w2 HX2.out HT2.out hxs (by omega) (by omega) rfl ⟨by simp [Ten.zero], by simp [Ten.zero]⟩ (first0 (by omega)) rfl rfl ref01 rfl rfl).mono ?_
  rintro e w3 ⟨rfl, p, m, hX, _, hP, hp, hm, hM⟩
  have HX3 : Hid (TabAt 42 w3 x t (L1 p)) := hid hX
  have HP3 := hid hP
  have HXG : Hid (w.heap.size ≤ x) := hid (by have := HXL.out; have := HB1s.out; omega)
  have HPX : Hid (w2.heap.size ≤ p ∧ w2.heap.size ≤ m ∧ x < w2.heap.size ∧ w.heap.size ≤ w2.heap.size) := hid ⟨hp, hm, HX2.out.lt, HB2.out.size⟩
  have HB3 := hid (mod_below HB2.out hM (by have := HL.out; have := HXG.out; rintro i (h | h | h) <;> omega) HB2.out.size)
  clear hX hP hp hm hM hxs HX2 HT2 HB2 HT1s HXL HB1s HL
  go_wp2_with fail
  have hI := Issue_at (n := 3) (p := p) 1 w3 HX3.out (by omega) (by omega) rfl (by omega) (by omega)
  rw [show (L1 p 3).gen = 1 from rfl, show ((3 : Nat) : Int) = 3 from rfl] at hI
  refine hI.mono ?_
  rintro e w4 ⟨rfl, hB⟩
  clear hI
  have HX4 := hid ((HX3.out.keep hB).alloc (.cells #[.int .i64 3, .int .u32 1, .int .u8 1] 26 (0, 0)))
  have HP4 := hid ((HP3.out.keep hB).alloc (.cells #[.int .i64 3, .int .u32 1, .int .u8 1] 26 (0, 0)))
  have HN4 := hid (heap_new w4 (.cells #[.int .i64 3, .int .u32 1, .int .u8 1] 26 (0, 0)))
  have HB4 := hid ((below_chain HB3.out hB HB3.out.size).alloc (by have := HB3.out.size; have := hB.size; omega) (.cells #[.int .i64 3, .int .u32 1, .int .u8 1] 26 (0, 0)))
  clear hB HX3 HP3 HB3
  go_wp2_with fail
  generalize w4.alloc (.cells #[.int .i64 3, .int .u32 1, .int .u8 1] 26 (0, 0)) = W4 at *
  generalize w4.heap.size = hb at *
  have hI := Good_at 3 1 1 W4 HX4.out
  rw [show goodB (L1 p) 3 1 1 = true from rfl] at hI
  refine hI.mono ?_
  rintro e w5 ⟨rfl, hB⟩
  clear hI
  have HX5 := hid (HX4.out.keep hB)
  have HP5 := hid (HP4.out.keep hB)
  have HN5 := hid (blk_below HN4.out hB (lt_of_block HN4.out))
  have HB5 := hid (below_chain HB4.out hB HB4.out.size)
  clear hB HX4 HP4 HN4 HB4
  go_wp2_with fail
  have hI := revoke_at (n := 3) (p := p) w5 HX5.out (by omega) (by omega) rfl ⟨by show (0 : Int) ≤ 1; omega, by show (1 : Int) < 4294967295; omega⟩
  refine hI.mono ?_
  rintro e w6 ⟨rfl, hX, hM⟩
  clear hI
  have HX6 : Hid (TabAt 42 w6 x t (L2 p)) := hid hX
  have hpx := HPX.out
  have HP6 := hid (HP5.out.mod hM (by omega) (by omega))
  have hbx : hb ≠ x := fun e => by
    have h1 := HX5.out.head.1
    have h2 := cell_of HN5.out 0
    rw [e, h1] at h2
    simp at h2
  have HN6 := hid ((hM.block hb (lt_of_block HN5.out) hbx).trans HN5.out)
  have HB6 := hid (mod_below HB5.out hM (by have := HXG.out; rintro i h; omega) HB5.out.size)
  clear hX hM hpx hbx HX5 HP5 HN5 HB5
  have n0 := cell_of HN6.out 0
  have n1 := cell_of HN6.out 1
  have n2 := cell_of HN6.out 2
  go_wp2_with fail
  have hI := Good_at 3 1 1 w6 HX6.out
  rw [show goodB (L2 p) 3 1 1 = false from rfl] at hI
  refine hI.mono ?_
  rintro e w7 ⟨rfl, hB⟩
  clear hI n0 n1 n2
  have HX7 := hid (HX6.out.keep hB)
  have HP7 := hid (HP6.out.keep hB)
  have HN7 := hid (blk_below HN6.out hB (lt_of_block HN6.out))
  have HB7 := hid (below_chain HB6.out hB HB6.out.size)
  clear hB HX6 HP6 HN6 HB6
  clear HN7
  go_wp2_with fail
  refine (Gate_at x 3 2 2 2 w7).mono ?_
  rintro e w8 ⟨gb, rfl, hG, hgb, hB⟩
  have HX8 := hid (HX7.out.keep hB)
  have HP8 := hid (HP7.out.keep hB)
  have HB8 := hid (below_chain HB7.out hB HB7.out.size)
  have HG8 : Hid (w8.heap[gb]? = some (GBlk ⟨x, 3, 2, 2, 2, none, 0, 0, 0⟩)) := hid hG
  have hpl := HP7.out.lt
  have hxl := HX7.out.lt
  have HGN : Hid (gb ≠ p ∧ gb ≠ m ∧ ¬ GOwn gb p m x ∧ w.heap.size ≤ gb) := hid (by
    have := HPX.out
    have := HB7.out.size
    refine ⟨by omega, by omega, ?_, by omega⟩
    rintro (h | h | h) <;> omega)
  clear hB hG hgb hpl hxl HX7 HP7 HB7
  have hmReserve : ∀ (w : World) (b : Nat), (method 281 73 (.pointer (some ⟨b, 0, none⟩)) "Reserve").run Try.prog w = .ok (100, .pointer (some ⟨b, 0, none⟩)) w := fun w b => by kernel_rfl
  have hmCommit : ∀ (w : World) (b : Nat), (method 281 73 (.pointer (some ⟨b, 0, none⟩)) "Commit").run Try.prog w = .ok (98, .pointer (some ⟨b, 0, none⟩)) w := fun w b => by kernel_rfl
  go_wp2_with fail
  have hI := gReserve_ok (n := 3) (g := ⟨x, 3, 2, 2, 2, none, 0, 0, 0⟩) (s := S1) (1) (10) w8 HG8.out HX8.out (by simp) HP8.out i1 HGN.out.1 HGN.out.2.1 HGN.out.2.2.1 (by kernel_rfl) rfl (by omega) rfl (by decide) (by omega) (by omega)
  rw [show closeSt S1 ⟨x, 3, 2, 2, 2, none, 0, 0, 0⟩ = S1 from rfl, e1] at hI
  refine hI.mono ?_
  rintro e w9 ⟨rfl, hG, hP, hM⟩
  clear hI
  have hpx := HPX.out
  have HX9 := hid (HX8.out.mod hM HGN.out.2.2.1)
  have HB9 := hid (mod_below HB8.out hM (by have := HGN.out; have := HPX.out; rintro i (h | h | h) <;> omega) HB8.out.size)
  have HP9 : Hid (PurseAt w9 p m S1) := hid hP
  have HG9 : Hid (w9.heap[gb]? = some (GBlk ⟨x, 3, 2, 2, 2, none, 0, 0, 0⟩)) := hid hG
  have HMG9 := hid hM
  clear hG hP hM hpx HX8 HP8 HB8 HG8
  go_wp2_with fail
  have hI := gReserve_ok (n := 3) (g := ⟨x, 3, 2, 2, 2, none, 0, 0, 0⟩) (s := S1) (1) (9) w9 HG9.out HX9.out (by simp) HP9.out i1 HGN.out.1 HGN.out.2.1 HGN.out.2.2.1 (by kernel_rfl) rfl (by omega) rfl (by decide) (by omega) (by omega)
  rw [show closeSt S1 ⟨x, 3, 2, 2, 2, none, 0, 0, 0⟩ = S1 from rfl, e2] at hI
  refine hI.mono ?_
  rintro e w10 ⟨rfl, hG, hP, hM⟩
  clear hI
  have hpx := HPX.out
  have HX10 := hid (HX9.out.mod hM HGN.out.2.2.1)
  have HB10 := hid (mod_below HB9.out hM (by have := HGN.out; have := HPX.out; rintro i (h | h | h) <;> omega) HB9.out.size)
  have HP10 : Hid (PurseAt w10 p m S2) := hid hP
  have HG10 : Hid (w10.heap[gb]? = some (GBlk ⟨x, 3, 2, 2, 2, (some p), 1, 0, 0⟩)) := hid hG
  have HMG10 := hid hM
  clear hG hP hM hpx HX9 HP9 HB9 HG9
  go_wp2_with fail
  have hI := gCommit_yes (g := ⟨x, 3, 2, 2, 2, some p, 1, 0, 0⟩) (s := S2) w10 HG10.out rfl HP10.out i2 HGN.out.1 HGN.out.2.1 (by simp only; omega) (by simp only; omega)
  rw [e3] at hI
  refine hI.mono ?_
  rintro e w11 ⟨rfl, hG, hP, hM⟩
  clear hI
  have HX11 := hid (HX10.out.mod hM HGN.out.2.2.1)
  have HB11 := hid (mod_below HB10.out hM (by have := HGN.out; have := HPX.out; rintro i (h | h | h) <;> omega) HB10.out.size)
  have HP11 : Hid (PurseAt w11 p m S3) := hid hP
  have HG11 : Hid (w11.heap[gb]? = some (GBlk ⟨x, 3, 2, 2, 2, none, 1, 0, 0⟩)) := hid hG
  have HMG11 := hid hM
  clear hG hP hM HX10 HP10 HB10 HG10
  go_wp2_with fail
  have hI := tHas_at (n := 3) (p := p) w11 HX11.out (by omega) (by omega) rfl HP11.out
  rw [show S3.hk = 1 from rfl, show S3.hb = 9 from rfl] at hI
  refine hI.mono ?_
  rintro e w12 ⟨rfl, hB⟩
  clear hI
  have hX := (HX11.out.keep hB).alloc (.cells #[.int .u64 1, .int .u64 9] 49 (0, 0))
  have hP := (HP11.out.keep hB).alloc (.cells #[.int .u64 1, .int .u64 9] 49 (0, 0))
  have hG := blk_alloc (o' := (.cells #[.int .u64 1, .int .u64 9] 49 (0, 0))) (blk_below HG11.out hB (lt_of_block HG11.out))
  have hQ := heap_new w12 (.cells #[.int .u64 1, .int .u64 9] 49 (0, 0))
  have hBB := (below_chain HB11.out hB HB11.out.size).alloc (by have := HB11.out.size; have := hB.size; omega) (.cells #[.int .u64 1, .int .u64 9] 49 (0, 0))
  have hql : gb < w12.heap.size ∧ p < w12.heap.size ∧ m < w12.heap.size := ⟨lt_of_block (blk_below HG11.out hB (lt_of_block HG11.out)), (HP11.out.keep hB).lt.1, (HP11.out.keep hB).lt.2⟩
  try have hQQ := blk_alloc (o' := (.cells #[.int .u64 1, .int .u64 9] 49 (0, 0))) (blk_below HQ11.out hB (lt_of_block HQ11.out))
  clear hB
  go_wp2_with fail
  generalize w12.alloc (.cells #[.int .u64 1, .int .u64 9] 49 (0, 0)) = w13 at *
  generalize w12.heap.size = qa at *
  have HX13 := hid hX
  have HP13 := hid hP
  have HG13 := hid hG
  have HB13 := hid hBB
  have HQN := hid hQ
  have HQL := hid hql
  try have HQ13 := hid hQQ
  try clear hQQ
  clear hX hP hG hBB hQ hql HX11 HP11 HG11 HB11
  have hqa : ¬ GOwn gb p m qa := by
    have := HQL.out
    rintro (h | h | h) <;> omega
  have HQ := hid HQN.out
  clear HQN HQL
  have hI := gReserve_ok (n := 3) (g := ⟨x, 3, 2, 2, 2, none, 1, 0, 0⟩) (s := S3) ((-1)) ((-4)) w13 HG13.out HX13.out (by simp) HP13.out i3 HGN.out.1 HGN.out.2.1 HGN.out.2.2.1 (by kernel_rfl) rfl (by omega) rfl (by decide) (by omega) (by omega)
  rw [show closeSt S3 ⟨x, 3, 2, 2, 2, none, 1, 0, 0⟩ = S3 from rfl, e4] at hI
  refine hI.mono ?_
  rintro e w14 ⟨rfl, hG, hP, hM⟩
  clear hI
  have hpx := HPX.out
  have HX14 := hid (HX13.out.mod hM HGN.out.2.2.1)
  have HB14 := hid (mod_below HB13.out hM (by have := HGN.out; have := HPX.out; rintro i (h | h | h) <;> omega) HB13.out.size)
  have HP14 : Hid (PurseAt w14 p m S4) := hid hP
  have HG14 : Hid (w14.heap[gb]? = some (GBlk ⟨x, 3, 2, 2, 2, (some p), 2, 1, 4⟩)) := hid hG
  have HMG14 := hid hM
  clear hG hP hM hpx HX13 HP13 HB13 HG13
  have HQ14 := hid ((HMG14.out.block qa (lt_of_block HQ.out) hqa).trans HQ.out)
  clear HQ HMG14
  go_wp2_with fail
  have hI := gCommit_yes (g := ⟨x, 3, 2, 2, 2, some p, 2, 1, 4⟩) (s := S4) w14 HG14.out rfl HP14.out i4 HGN.out.1 HGN.out.2.1 (by simp only; omega) (by simp only; omega)
  rw [e5] at hI
  refine hI.mono ?_
  rintro e w15 ⟨rfl, hG, hP, hM⟩
  clear hI
  have HX15 := hid (HX14.out.mod hM HGN.out.2.2.1)
  have HB15 := hid (mod_below HB14.out hM (by have := HGN.out; have := HPX.out; rintro i (h | h | h) <;> omega) HB14.out.size)
  have HP15 : Hid (PurseAt w15 p m S5) := hid hP
  have HG15 : Hid (w15.heap[gb]? = some (GBlk ⟨x, 3, 2, 2, 2, none, 2, 1, 4⟩)) := hid hG
  have HMG15 := hid hM
  clear hG hP hM HX14 HP14 HB14 HG14
  have HQ15 := hid ((HMG15.out.block qa (lt_of_block HQ14.out) hqa).trans HQ14.out)
  clear HQ14 HMG15
  go_wp2_with fail
  have hI := tHas_at (n := 3) (p := p) w15 HX15.out (by omega) (by omega) rfl HP15.out
  rw [show S5.hk = 0 from rfl, show S5.hb = 5 from rfl] at hI
  refine hI.mono ?_
  rintro e w16 ⟨rfl, hB⟩
  clear hI
  have hQ := blk_alloc (o' := (.cells #[.int .u64 0, .int .u64 5] 49 (0, 0))) (blk_below HQ15.out hB (lt_of_block HQ15.out))
  have hQ2 := heap_new w16 (.cells #[.int .u64 0, .int .u64 5] 49 (0, 0))
  have HB := hid ((below_chain HB15.out hB HB15.out.size).alloc (by have := HB15.out.size; have := hB.size; omega) (.cells #[.int .u64 0, .int .u64 5] 49 (0, 0)))
  have q0 := cell_of hQ 0
  have q1 := cell_of hQ 1
  have q2 := cell_of hQ2 0
  have q3 := cell_of hQ2 1
  clear hQ hQ2 hB
  go_wp2
  go_ret
  exact ⟨rfl, HB.out⟩
end Go.Proofs.Ytgdmfledhhoedaa.T
