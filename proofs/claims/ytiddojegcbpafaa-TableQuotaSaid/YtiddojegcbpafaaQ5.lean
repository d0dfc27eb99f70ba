/- TableQuota: the walk. -/
import Derived.Test.YtiddojegcbpafaaQ4
namespace Go.Proofs.Ytiddojegcbpafaa.T
set_option maxRecDepth 8000
open Go.ChangeShapes Go.WideShapes Go.ChangeAt Go.RowKit Go.Burg Go.Joins
open Go.Burg.Lk
open Go.Burg.Purse (St Inv)
open Go.Burg.Quota
theorem res_fields {xk xb : Int} {r n : Nat} {q : Qs} {k b : Int} (h : QI xk xb r q) (hn : n < 4) (hk : -128 ≤ k ∧ k ≤ 127) (hb : -128 ≤ b ∧ b ≤ 127) :
    (resQ q n k b).o = Quota.set q.o n (fitQ q n k b) ∧ (resQ q n k b).k = Quota.set q.k n k ∧ (resQ q n k b).b = Quota.set q.b n b := by
  have h4 := (h.res hn hk hb).2.2.2.1
  unfold resQ
  simp only
  rw [h4]
  cases fitQ q n k b <;> simp
theorem MAt.done {w w1 : World} {B : Bls} {q q' : Qs} {k b v} {n : Nat} {kv bv : Int} (h : MAt w B q' (cond true (Quota.set (Quota.set q.o n false) n v) k) (cond true (Quota.set q.k n kv) b) (cond true (Quota.set q.b n bv) b) w1) (h1 : q'.o = Quota.set q.o n v) (h2 : q'.k = Quota.set q.k n kv) (h3 : q'.b = Quota.set q.b n bv) : RAt w B q' w1 := by
  refine ⟨h.g, h.fga, h.foa.ext fun i _ => ?_, h.fka.ext fun i _ => ?_, h.fba.ext fun i _ => ?_⟩
  · rw [h1]; simp only [cond_true]; unfold Quota.set; split <;> rfl
  · rw [h2]; rfl
  · rw [h3]; rfl
set_option maxHeartbeats 40000000 in
theorem quota_any (xk xb : Int) (hxk : 0 ≤ xk ∧ xk ≤ 255) (hxb : 0 ≤ xb ∧ xb ≤ 255) (a : Option Addr) (len cap : Nat) (ds : Nat → QC) (w : World) (hD : CallsAt w a len ds) :
    Calls Try.prog 3 #[.int .u8 xk, .int .u8 xb, .slice a len cap] w fun e w' => e = .returned (.bool true) ∧ Below w.heap.size w w' := by
  have HD := hid hD
  have HK := hid hxk
  have HK2 := hid hxb
  clear hD
  go_enter Try.func3, Try.ntmps3
  go_wp2_with fail
  refine (fresh_at 3 w (by omega) (by omega)).mono ?_
  rintro e w1 ⟨x, t, sb, sg, kb, km, rfl, hX, hT, hl, hx, hB⟩
  have HX1 := hid hX
  have HT1 := hid hT
  have HL := hid hl
  have HXS := hid hx
  have HB1 := hid hB
  clear hX hT hl hx hB
  go_wp2_with fail
  refine (create_new (n := 7) (k := 0) (l := fun _ => Ten.zero) (c := ⟨false, Nd.zero, 0⟩) xk xb w1 HX1.out HT1.out HXS.out (by omega) (by omega) rfl ⟨by simp [Ten.zero], by simp [Ten.zero]⟩ (first0 (by omega)) rfl rfl ref01 rfl rfl).mono ?_
  rintro e w3 ⟨rfl, p, m, hX, _, hP, hp, hm, hM⟩
  have HX3 : Hid (TabAt 82 w3 x t (L7 p)) := hid hX
  have HP3 := hid hP
  have HO : Hid (w.heap.size ≤ x ∧ x < p ∧ x < m ∧ p ≠ m) := hid ⟨HL.out.1, by have := HX1.out.lt; omega, by have := HX1.out.lt; omega, hP.ne⟩
  have HB3 := hid (mod_below HB1.out hM (by have := HL.out; rintro i (h | h | h) <;> omega) HB1.out.size)
  clear hX hP hp hm hM HX1 HT1 HXS HL HB1
  go_wp2_with fail
  have hI := Issue_at (n := 7) (p := p) 7 w3 HX3.out (by omega) (by omega) rfl (by omega) (by omega)
  rw [show (L7 p 7).gen = 1 from rfl, show ((7 : Nat) : Int) = 7 from rfl] at hI
  refine hI.mono ?_
  rintro e w4 ⟨rfl, hB⟩
  clear hI
  have HX4 := hid (HX3.out.keep hB)
  have HP4 := hid (HP3.out.keep hB)
  have HB4 := hid (below_chain HB3.out hB HB3.out.size)
  clear hB HX3 HP3 HB3
  go_wp2_with fail
  have hL : L1At w x t p m w4.heap.size (w4.heap.size + 1) (w4.heap.size + 1 + 1) (w4.heap.size + 1 + 1 + 1) (w4.heap.size + 1 + 1 + 1 + 1) xk xb (fun _ => 0) 0 (((((w4.alloc (.cells #[.int .i64 7, .int .u32 1, .int .u8 7] 35 (0, 0))).alloc (.cells #[.nilIface, .nilIface, .nilIface, .nilIface] 40 (0, 0))).alloc (.cells #[.bool false, .bool false, .bool false, .bool false] 41 (0, 0))).alloc (.cells #[.int .i64 0, .int .i64 0, .int .i64 0, .int .i64 0] 42 (0, 0))).alloc (.cells #[.int .i64 0, .int .i64 0, .int .i64 0, .int .i64 0] 42 (0, 0))) := by
    have h1 := (((((HX4.out.alloc (.cells #[.int .i64 7, .int .u32 1, .int .u8 7] 35 (0, 0))).alloc (.cells #[.nilIface, .nilIface, .nilIface, .nilIface] 40 (0, 0))).alloc (.cells #[.bool false, .bool false, .bool false, .bool false] 41 (0, 0))).alloc (.cells #[.int .i64 0, .int .i64 0, .int .i64 0, .int .i64 0] 42 (0, 0))).alloc (.cells #[.int .i64 0, .int .i64 0, .int .i64 0, .int .i64 0] 42 (0, 0)))
    have h2 := (((((HP4.out.alloc (.cells #[.int .i64 7, .int .u32 1, .int .u8 7] 35 (0, 0))).alloc (.cells #[.nilIface, .nilIface, .nilIface, .nilIface] 40 (0, 0))).alloc (.cells #[.bool false, .bool false, .bool false, .bool false] 41 (0, 0))).alloc (.cells #[.int .i64 0, .int .i64 0, .int .i64 0, .int .i64 0] 42 (0, 0))).alloc (.cells #[.int .i64 0, .int .i64 0, .int .i64 0, .int .i64 0] 42 (0, 0)))
    have h3 := blk_alloc (o' := (.cells #[.int .i64 0, .int .i64 0, .int .i64 0, .int .i64 0] 42 (0, 0))) (blk_alloc (o' := (.cells #[.int .i64 0, .int .i64 0, .int .i64 0, .int .i64 0] 42 (0, 0))) (blk_alloc (o' := (.cells #[.bool false, .bool false, .bool false, .bool false] 41 (0, 0))) (blk_alloc (o' := (.cells #[.nilIface, .nilIface, .nilIface, .nilIface] 40 (0, 0))) (heap_new w4 (.cells #[.int .i64 7, .int .u32 1, .int .u8 7] 35 (0, 0))))))
    have h4 := blk_alloc (o' := (.cells #[.int .i64 0, .int .i64 0, .int .i64 0, .int .i64 0] 42 (0, 0))) (blk_alloc (o' := (.cells #[.int .i64 0, .int .i64 0, .int .i64 0, .int .i64 0] 42 (0, 0))) (blk_alloc (o' := (.cells #[.bool false, .bool false, .bool false, .bool false] 41 (0, 0))) (heap_new (w4.alloc (.cells #[.int .i64 7, .int .u32 1, .int .u8 7] 35 (0, 0))) (.cells #[.nilIface, .nilIface, .nilIface, .nilIface] 40 (0, 0)))))
    have h5 := blk_alloc (o' := (.cells #[.int .i64 0, .int .i64 0, .int .i64 0, .int .i64 0] 42 (0, 0))) (blk_alloc (o' := (.cells #[.int .i64 0, .int .i64 0, .int .i64 0, .int .i64 0] 42 (0, 0))) (heap_new ((w4.alloc (.cells #[.int .i64 7, .int .u32 1, .int .u8 7] 35 (0, 0))).alloc (.cells #[.nilIface, .nilIface, .nilIface, .nilIface] 40 (0, 0))) (.cells #[.bool false, .bool false, .bool false, .bool false] 41 (0, 0))))
    have h6 := blk_alloc (o' := (.cells #[.int .i64 0, .int .i64 0, .int .i64 0, .int .i64 0] 42 (0, 0))) (heap_new (((w4.alloc (.cells #[.int .i64 7, .int .u32 1, .int .u8 7] 35 (0, 0))).alloc (.cells #[.nilIface, .nilIface, .nilIface, .nilIface] 40 (0, 0))).alloc (.cells #[.bool false, .bool false, .bool false, .bool false] 41 (0, 0))) (.cells #[.int .i64 0, .int .i64 0, .int .i64 0, .int .i64 0] 42 (0, 0)))
    have h7 := heap_new ((((w4.alloc (.cells #[.int .i64 7, .int .u32 1, .int .u8 7] 35 (0, 0))).alloc (.cells #[.nilIface, .nilIface, .nilIface, .nilIface] 40 (0, 0))).alloc (.cells #[.bool false, .bool false, .bool false, .bool false] 41 (0, 0))).alloc (.cells #[.int .i64 0, .int .i64 0, .int .i64 0, .int .i64 0] 42 (0, 0))) (.cells #[.int .i64 0, .int .i64 0, .int .i64 0, .int .i64 0] 42 (0, 0))
    rw [show (w4.alloc (.cells #[.int .i64 7, .int .u32 1, .int .u8 7] 35 (0, 0))).heap.size = w4.heap.size + 1 by simp] at h4
    rw [show ((w4.alloc (.cells #[.int .i64 7, .int .u32 1, .int .u8 7] 35 (0, 0))).alloc (.cells #[.nilIface, .nilIface, .nilIface, .nilIface] 40 (0, 0))).heap.size = w4.heap.size + 1 + 1 by simp] at h5
    rw [show (((w4.alloc (.cells #[.int .i64 7, .int .u32 1, .int .u8 7] 35 (0, 0))).alloc (.cells #[.nilIface, .nilIface, .nilIface, .nilIface] 40 (0, 0))).alloc (.cells #[.bool false, .bool false, .bool false, .bool false] 41 (0, 0))).heap.size = w4.heap.size + 1 + 1 + 1 by simp] at h6
    rw [show ((((w4.alloc (.cells #[.int .i64 7, .int .u32 1, .int .u8 7] 35 (0, 0))).alloc (.cells #[.nilIface, .nilIface, .nilIface, .nilIface] 40 (0, 0))).alloc (.cells #[.bool false, .bool false, .bool false, .bool false] 41 (0, 0))).alloc (.cells #[.int .i64 0, .int .i64 0, .int .i64 0, .int .i64 0] 42 (0, 0))).heap.size = w4.heap.size + 1 + 1 + 1 + 1 by simp] at h7
    have hpl := HP4.out.lt
    have hb4 := HB4.out
    have hs4 := hb4.size
    refine ⟨HO.out, ⟨hpl.1, hpl.2, by omega, by omega, by omega, by omega⟩, h1, h2, h3, h4, h5, h6, h7, fun i hi => absurd hi (Nat.not_lt_zero _), fun i hi => absurd hi (Nat.not_lt_zero _), fun i _ hi => absurd hi (Nat.not_lt_zero _), ?_⟩
    exact ((((hb4.alloc hs4 _).alloc (by simp; omega) _).alloc (by simp; omega) _).alloc (by simp; omega) _).alloc (by simp; omega) _
  generalize (((((w4.alloc (.cells #[.int .i64 7, .int .u32 1, .int .u8 7] 35 (0, 0))).alloc (.cells #[.nilIface, .nilIface, .nilIface, .nilIface] 40 (0, 0))).alloc (.cells #[.bool false, .bool false, .bool false, .bool false] 41 (0, 0))).alloc (.cells #[.int .i64 0, .int .i64 0, .int .i64 0, .int .i64 0] 42 (0, 0))).alloc (.cells #[.int .i64 0, .int .i64 0, .int .i64 0, .int .i64 0] 42 (0, 0))) = W5 at *
  generalize hga : w4.heap.size + 1 = ga at *
  have HG1 := hid hga
  clear hga
  generalize hoa : ga + 1 = oa at *
  have HG2 := hid hoa
  clear hoa
  generalize hka : oa + 1 = ka at *
  have HG3 := hid hka
  clear hka
  generalize hba : ka + 1 = ba at *
  have HG4 := hid hba
  clear hba
  generalize w4.heap.size = hb at *
  have HL0 := hid hL
  clear hL HX4 HP4 HB4
  go_loopw [15] (fun iv wr => ∃ (n : Nat) (gb : Nat → Nat), n ≤ 4 ∧ iv = .int .i64 n ∧ L1At w x t p m hb ga oa ka ba xk xb gb n wr) (fun iv _ => 4 - (intOf iv).toNat)
  case atStart => exact ⟨0, fun _ => 0, by omega, rfl, HL0.out⟩
  case round =>
    clear HL0
    obtain ⟨n, gb, hn, rfl, H⟩ := hrel
    have HH := hid H
    clear H
    by_cases hlt : n < 4
    · have n0 := cell_of HH.out.hn 0
      have n1 := cell_of HH.out.hn 1
      have n2 := cell_of HH.out.hn 2
      have hhb := lt_of_block HH.out.hn
      have hgl := HH.out.fga.lt
      have gx := HH.out.fga.get hlt
      have gf := HH.out.fga.free n
      rw [if_neg (Nat.lt_irrefl n)] at gx
      rcases (by omega : n = 0 ∨ n = 1 ∨ n = 2 ∨ n = 3) with rfl | rfl | rfl | rfl
      · as_aux_lemma =>
          go_wp2_with fail
          go_region_with (go_at_call 8; refine (Gate_at x 7 1 7 _ _).mono ?_; rintro e w6 ⟨b, rfl, hG, hb6, hB6⟩; have HB6 : Hid (Below wr.heap.size wr w6) := hid (below_chain (by (repeat (first | exact Below.refl _ _ | assumption | with_reducible refine Below.drew ?_ | with_reducible refine below_drewN ?_ | with_reducible refine Below.setCell ?_ (by first | (simp; done) | (simp; omega)) _ | with_reducible refine Below.alloc ?_ (by first | exact Nat.le_refl _ | (simp; done) | (simp; omega)) _))) hB6 (by first | (simp; done) | (simp; omega))); have hg6 := HH.out.fga.same (HB6.out.block ga hgl); have gx6 := hg6.get hlt; have gf6 := hg6.free 0; simp only [Nat.lt_irrefl, if_false] at gx6; clear hg6; have HG6 := hid hG; have HBL : Hid (wr.heap.size ≤ b) := hid (Nat.le_trans (by first | exact Nat.le_refl _ | (simp; done) | (simp; omega)) hb6); clear hG hB6 hb6)
          all_goals
            have HS : Hid (L1At w x t p m hb ga oa ka ba xk xb (Quota.set gb 0 b) (0 + 1) (w6.setCell ⟨ga, 0, none⟩ (.iface 84 (.pointer (some ⟨b, 0, none⟩))))) := hid (HH.out.step (by omega) HB6.out HG6.out HBL.out)
            clear HB6 HG6 HBL n0 n1 n2 gx gf
            go_wp2_with fail
            go_roundw
            case rel => exact ⟨0 + 1, _, by omega, by go_num, HS.out⟩
            case measure => simp [intOf]
      · as_aux_lemma =>
          go_wp2_with fail
          go_region_with (go_at_call 8; refine (Gate_at x 7 1 7 _ _).mono ?_; rintro e w6 ⟨b, rfl, hG, hb6, hB6⟩; have HB6 : Hid (Below wr.heap.size wr w6) := hid (below_chain (by (repeat (first | exact Below.refl _ _ | assumption | with_reducible refine Below.drew ?_ | with_reducible refine below_drewN ?_ | with_reducible refine Below.setCell ?_ (by first | (simp; done) | (simp; omega)) _ | with_reducible refine Below.alloc ?_ (by first | exact Nat.le_refl _ | (simp; done) | (simp; omega)) _))) hB6 (by first | (simp; done) | (simp; omega))); have hg6 := HH.out.fga.same (HB6.out.block ga hgl); have gx6 := hg6.get hlt; have gf6 := hg6.free 1; simp only [Nat.lt_irrefl, if_false] at gx6; clear hg6; have HG6 := hid hG; have HBL : Hid (wr.heap.size ≤ b) := hid (Nat.le_trans (by first | exact Nat.le_refl _ | (simp; done) | (simp; omega)) hb6); clear hG hB6 hb6)
          all_goals
            have HS : Hid (L1At w x t p m hb ga oa ka ba xk xb (Quota.set gb 1 b) (1 + 1) (w6.setCell ⟨ga, 1, none⟩ (.iface 84 (.pointer (some ⟨b, 0, none⟩))))) := hid (HH.out.step (by omega) HB6.out HG6.out HBL.out)
            clear HB6 HG6 HBL n0 n1 n2 gx gf
            go_wp2_with fail
            go_roundw
            case rel => exact ⟨1 + 1, _, by omega, by go_num, HS.out⟩
            case measure => simp [intOf]
      · as_aux_lemma =>
          go_wp2_with fail
          go_region_with (go_at_call 8; refine (Gate_at x 7 1 7 _ _).mono ?_; rintro e w6 ⟨b, rfl, hG, hb6, hB6⟩; have HB6 : Hid (Below wr.heap.size wr w6) := hid (below_chain (by (repeat (first | exact Below.refl _ _ | assumption | with_reducible refine Below.drew ?_ | with_reducible refine below_drewN ?_ | with_reducible refine Below.setCell ?_ (by first | (simp; done) | (simp; omega)) _ | with_reducible refine Below.alloc ?_ (by first | exact Nat.le_refl _ | (simp; done) | (simp; omega)) _))) hB6 (by first | (simp; done) | (simp; omega))); have hg6 := HH.out.fga.same (HB6.out.block ga hgl); have gx6 := hg6.get hlt; have gf6 := hg6.free 2; simp only [Nat.lt_irrefl, if_false] at gx6; clear hg6; have HG6 := hid hG; have HBL : Hid (wr.heap.size ≤ b) := hid (Nat.le_trans (by first | exact Nat.le_refl _ | (simp; done) | (simp; omega)) hb6); clear hG hB6 hb6)
          all_goals
            have HS : Hid (L1At w x t p m hb ga oa ka ba xk xb (Quota.set gb 2 b) (2 + 1) (w6.setCell ⟨ga, 2, none⟩ (.iface 84 (.pointer (some ⟨b, 0, none⟩))))) := hid (HH.out.step (by omega) HB6.out HG6.out HBL.out)
            clear HB6 HG6 HBL n0 n1 n2 gx gf
            go_wp2_with fail
            go_roundw
            case rel => exact ⟨2 + 1, _, by omega, by go_num, HS.out⟩
            case measure => simp [intOf]
      · as_aux_lemma =>
          go_wp2_with fail
          go_region_with (go_at_call 8; refine (Gate_at x 7 1 7 _ _).mono ?_; rintro e w6 ⟨b, rfl, hG, hb6, hB6⟩; have HB6 : Hid (Below wr.heap.size wr w6) := hid (below_chain (by (repeat (first | exact Below.refl _ _ | assumption | with_reducible refine Below.drew ?_ | with_reducible refine below_drewN ?_ | with_reducible refine Below.setCell ?_ (by first | (simp; done) | (simp; omega)) _ | with_reducible refine Below.alloc ?_ (by first | exact Nat.le_refl _ | (simp; done) | (simp; omega)) _))) hB6 (by first | (simp; done) | (simp; omega))); have hg6 := HH.out.fga.same (HB6.out.block ga hgl); have gx6 := hg6.get hlt; have gf6 := hg6.free 3; simp only [Nat.lt_irrefl, if_false] at gx6; clear hg6; have HG6 := hid hG; have HBL : Hid (wr.heap.size ≤ b) := hid (Nat.le_trans (by first | exact Nat.le_refl _ | (simp; done) | (simp; omega)) hb6); clear hG hB6 hb6)
          all_goals
            have HS : Hid (L1At w x t p m hb ga oa ka ba xk xb (Quota.set gb 3 b) (3 + 1) (w6.setCell ⟨ga, 3, none⟩ (.iface 84 (.pointer (some ⟨b, 0, none⟩))))) := hid (HH.out.step (by omega) HB6.out HG6.out HBL.out)
            clear HB6 HG6 HBL n0 n1 n2 gx gf
            go_wp2_with fail
            go_roundw
            case rel => exact ⟨3 + 1, _, by omega, by go_num, HS.out⟩
            case measure => simp [intOf]
    · obtain rfl : n = 4 := by omega
      have HR : Hid (RAt w ⟨x, t, p, m, ga, oa, ka, ba, gb⟩ (Qs.start xk xb) wr) := hid (RAt.start HH.out)
      clear HH HG1 HG2 HG3 HG4
      have hcond : decide (((4 : Nat) : Int) < 4) = false := by decide
      go_wp2_with fail
      go_loopg [16, 17, 18] 200 (fun g hv sv iv wx => ∃ (k : Nat) (q : Qs), g = 200 - k ∧ k ≤ len ∧ k ≤ 200 ∧ iv = .int .i64 k ∧ hv = .int .i64 q.s.hk ∧ sv = .int .i64 q.s.hb ∧ QI xk xb k q ∧ RAt w ⟨x, t, p, m, ga, oa, ka, ba, gb⟩ q wx)
      case atStart => exact ⟨0, Qs.start xk xb, rfl, Nat.zero_le _, by omega, rfl, rfl, rfl, QI.start HK.out HK2.out, HR.out⟩
      case round =>
        clear HR
        obtain ⟨k, q, rfl, hk, hk2, rfl, rfl, rfl, hQ, hR⟩ := hrel
        have HQ := hid hQ
        have HR := hid hR
        clear hQ hR
        by_cases hlt : k < len ∧ k < 200
        · obtain ⟨bl, off, rfl, hbl, ⟨d0, d1, d2, d3⟩, hok⟩ := call_facts HD.out HR.out.g.bel hlt.1
          have hc1 : decide ((k : Int) < len) = true := by simp; exact hlt.1
          have hc2 : decide ((k : Int) < 200) = true := by simp; omega
          have HOK := hid hok
          have HLT := hid hlt
          obtain ⟨n, hn4, en⟩ : ∃ n : Nat, n < 4 ∧ wrap64 ((ds k).g.tmod 4) = n := rem4 hok.g
          have ha := HR.out.foa.get hn4
          have haf := HR.out.foa.free n
          have hg := HR.out.fga.get hn4
          have hal := HR.out.foa.lt
          have hnb : ((n : Int) < 4) := by omega
          have hlen : (k : Int) < len := by have := hlt.1; omega
          rcases rem3 hok.w with em | em | em
          · have hmx := run_max0
            have hoo := HR.out.g.ok
            have hbo : bl ≠ oa := by have := hoo.x; have := hoo.p; have := hoo.ga; have := hoo.oa; simp only at *; omega
            obtain ⟨rk1, rk2⟩ := hok.k
            obtain ⟨rb1, rb2⟩ := hok.b
            clear hok hlt hoo hg
            go_wp2_with fail
            have HM : Hid (MAt w ⟨x, t, p, m, ga, oa, ka, ba, gb⟩ q (Quota.set q.o n false) q.k q.b (wr.setCell ⟨oa, n, none⟩ (.bool false))) := hid (MAt.seto ⟨HR.out.g, HR.out.fga, HR.out.foa, HR.out.fka, HR.out.fba⟩ hn4 false)
            clear ha haf hal d0 d1 d2 d3 HR
            generalize wr.setCell ⟨oa, n, none⟩ (.bool false) = Wa at *
            obtain ⟨_, _, eA, _, ⟨_, _, d2, d3⟩, _⟩ := call_facts HD.out HM.out.g.bel HLT.out.1
            simp only [Option.some.injEq, Addr.mk.injEq, and_true] at eA
            obtain ⟨rfl, rfl⟩ := eA
            go_quiet (fail)
            have HM2 : Hid (MAt w ⟨x, t, p, m, ga, oa, ka, ba, gb⟩ q (Quota.set q.o n false) q.k q.b (Wa.drewN nq)) := hid (HM.out.keep (below_drewN (Below.refl _ _)))
            clear HM d2 d3
            generalize Wa.drewN nq = Wb at *
            have HM := HM2
            clear HM2
            go_wp2_with fail
            go_loopw [20, 21, 22] (fun mv sv iv wx => ∃ j : Nat, j ≤ 4 ∧ iv = .int .i64 j ∧ mv = .int .i64 (max (ds k).k 0 + sum4 (wt (Quota.set q.o n false) q.k) j) ∧ sv = .int .i64 (max (ds k).b 0 + sum4 (wt (Quota.set q.o n false) q.b) j) ∧ wx = Wb) (fun _ _ iv _ => 4 - (intOf iv).toNat)
            case atStart => exact ⟨0, by omega, rfl, by simp [sum4], by simp [sum4], rfl⟩
            case round =>
              obtain ⟨j, hj, rfl, rfl, rfl, rfl⟩ := hrel
              by_cases hj4 : j < 4
              · obtain ⟨sk0, sk1⟩ := sum4_range (o := Quota.set q.o n false) HQ.out.rk j (by omega)
                obtain ⟨sb0, sb1⟩ := sum4_range (o := Quota.set q.o n false) HQ.out.rb j (by omega)
                have j0 := HM.out.foa.get hj4
                have j1 := HM.out.fka.get hj4
                have j2 := HM.out.fba.get hj4
                have hs1 : sum4 (wt (Quota.set q.o n false) q.k) (j + 1) = sum4 (wt (Quota.set q.o n false) q.k) j + (if Quota.set q.o n false j then max (q.k j) 0 else 0) := rfl
                have hs2 : sum4 (wt (Quota.set q.o n false) q.b) (j + 1) = sum4 (wt (Quota.set q.o n false) q.b) j + (if Quota.set q.o n false j then max (q.b j) 0 else 0) := rfl
                have HS1 := hid hs1
                have HS2 := hid hs2
                obtain ⟨rj1, rj2⟩ := HQ.out.rk j hj4
                obtain ⟨rj3, rj4⟩ := HQ.out.rb j hj4
                have hj40 : (j : Int) < 4 := by omega
                clear hs1 hs2
                generalize sum4 (wt (Quota.set q.o n false) q.k) j = S1 at *
                generalize sum4 (wt (Quota.set q.o n false) q.b) j = S2 at *
                cases hoj : Quota.set q.o n false j
                · simp only [hoj] at j0
                  have HOJ := hid hoj
                  clear hoj
                  go_wp2_with fail
                  go_roundw
                  case rel => exact ⟨j + 1, by omega, by go_num, by rw [HS1.out, HOJ.out]; simp, by rw [HS2.out, HOJ.out]; simp, by first | rfl | trivial⟩
                  case measure => simp [intOf]; omega
                · simp only [hoj] at j0
                  have HOJ := hid hoj
                  clear hoj
                  go_wp2_with fail
                  go_roundw
                  case rel => exact ⟨j + 1, by omega, by go_num, by rw [HS1.out, HOJ.out]; simp; omega, by rw [HS2.out, HOJ.out]; simp; omega, by first | rfl | trivial⟩
                  case measure => simp [intOf]; omega
              · obtain rfl : j = 4 := by omega
                obtain ⟨sk0, sk1⟩ := sum4_range (o := Quota.set q.o n false) HQ.out.rk 4 (by omega)
                obtain ⟨sb0, sb1⟩ := sum4_range (o := Quota.set q.o n false) HQ.out.rb 4 (by omega)
                obtain ⟨z1, z2, z3, z4⟩ := HQ.out.bnd
                have hx0 := hxk.2
                have hx1 := hxb.2
                have hfit : fitQ q n (ds k).k (ds k).b = (decide (q.s.hk + (max (ds k).k 0 + sum4 (wt (Quota.set q.o n false) q.k) 4) ≤ xk) && decide (q.s.hb + (max (ds k).b 0 + sum4 (wt (Quota.set q.o n false) q.b) 4) ≤ xb)) := by
                  unfold fitQ
                  rw [HQ.out.lk, HQ.out.lb]
                generalize sum4 (wt (Quota.set q.o n false) q.k) 4 = S1 at *
                generalize sum4 (wt (Quota.set q.o n false) q.b) 4 = S2 at *
                by_cases f1 : q.s.hk + (max (ds k).k 0 + S1) ≤ xk
                · by_cases f2 : q.s.hb + (max (ds k).b 0 + S2) ≤ xb
                  · have HF : Hid (fitQ q n (ds k).k (ds k).b = true) := hid (by rw [hfit]; simp [f1, f2])
                    clear hfit
                    as_aux_lemma =>
                      have hr4 := HQ.out.res hn4 ⟨rk1, rk2⟩ ⟨rb1, rb2⟩
                      have hrf := res_fields HQ.out hn4 ⟨rk1, rk2⟩ ⟨rb1, rb2⟩
                      rw [HF.out] at hrf
                      have HRF := hid hrf
                      have HR4 := hid hr4
                      clear hr4 hrf
                      have hmReserve : ∀ (w : World) (b : Nat), (method 281 84 (.pointer (some ⟨b, 0, none⟩)) "Reserve").run Try.prog w = .ok (91, .pointer (some ⟨b, 0, none⟩)) w := fun w b => by kernel_rfl
                      go_wp2_with fail
                      refine wp_region_seqI 20 (Turn 18 (fun w1 => Mod (GOwn (gb n) p m) wr w1 ∧ MAt w ⟨x, t, p, m, ga, oa, ka, ba, gb⟩ q (Quota.set q.o n false) q.k q.b w1) (fun w1 => Mod (GOwn (gb n) p m) wr w1 ∧ MAt w ⟨x, t, p, m, ga, oa, ka, ba, gb⟩ (resQ q n (ds k).k (ds k).b) (Quota.set q.o n false) q.k q.b w1)) (by kernel_rfl) (by kernel_rfl) (by kernel_rfl) (Turn.start ⟨(Mod.refl _ wr).drew, HM.out.keep ((Below.refl _ _).drew)⟩) ?_
                      dsimp only [List.take]
                      iterate 18
                        refine Seq.calm (a' := ?_) (by decide) ?_ ?_ ?_
                        rotate_left
                        ·
                          intro w1 hw1
                          have hga := hw1.elim (fun h => h.2.fga) (fun h => h.2.fga)
                          have hbel := hw1.elim (fun h => h.2.g.bel) (fun h => h.2.g.bel)
                          have g0 := hga.get hn4
                          clear hga hw1
                          obtain ⟨_, _, eA, _, ⟨_, _, d2, d3⟩, _⟩ := call_facts HD.out hbel HLT.out.1
                          simp only [Option.some.injEq, Addr.mk.injEq, and_true] at eA
                          obtain ⟨rfl, rfl⟩ := eA
                          clear hbel
                          go_wp2_with (fail)
                          first | (refine ⟨?_, id, id⟩; exact rfl) | (refine ⟨?_, (by first | exact id | exact fun h1 h2 => ⟨h1, h2⟩), (by first | exact id | exact fun h1 h2 => ⟨h1, h2⟩)⟩; exact rfl)
                        · kernel_rfl
                      refine Seq.turn (a' := ?_) ?_ ?_ ?_
                      rotate_left
                      ·
                        intro w1 hw1
                        have HM1 := hid hw1.1
                        have HM2 := hid hw1.2
                        clear hw1
                        have R := res_q HM2.out.g HQ.out (by have := HLT.out; omega) hn4 (ds k).k (ds k).b ⟨rk1, rk2⟩ ⟨rb1, rb2⟩
                        rw [HF.out] at R
                        simp only [if_true, if_false, Bool.false_eq_true] at R
                        have HRR := hid R
                        clear R
                        go_wp2_with (go_at_call 91; refine HRR.out.mono ?_; rintro e w2 ⟨rfl, hG, hM⟩)
                        refine ⟨?_, HM1.out.trans hM (fun _ _ h => h), HM2.out.gate hn4 hG hM⟩
                        exact rfl
                      · kernel_rfl
                      iterate 1
                        refine Seq.calm (a' := ?_) (by decide) ?_ ?_ ?_
                        rotate_left
                        ·
                          intro w1 hw1
                          have hga := hw1.elim (fun h => h.2.fga) (fun h => h.2.fga)
                          have hbel := hw1.elim (fun h => h.2.g.bel) (fun h => h.2.g.bel)
                          have g0 := hga.get hn4
                          clear hga hw1
                          obtain ⟨_, _, eA, _, ⟨_, _, d2, d3⟩, _⟩ := call_facts HD.out hbel HLT.out.1
                          simp only [Option.some.injEq, Addr.mk.injEq, and_true] at eA
                          obtain ⟨rfl, rfl⟩ := eA
                          clear hbel
                          go_wp2_with (fail)
                          first | (refine ⟨?_, id, id⟩; exact rfl) | (refine ⟨?_, (by first | exact id | exact fun h1 h2 => ⟨h1, h2⟩), (by first | exact id | exact fun h1 h2 => ⟨h1, h2⟩)⟩; exact rfl)
                        · kernel_rfl
                      refine SeqI.nil ?_
                      intro D w1 hD hI
                      replace hI := hI.done (hD 18 (by omega))
                      clear hD
                      dsimp only [List.drop]
                      have HMb := hid hI.2
                      clear hI HM
                      go_wp2_with fail
                      refine wp_region_seqC 22 (Turn4 17 19 21 99 (fun b1 b2 b3 _ w2 => MAt w ⟨x, t, p, m, ga, oa, ka, ba, gb⟩ (resQ q n (ds k).k (ds k).b) (cond b1 (Quota.set (Quota.set q.o n false) n true) (Quota.set q.o n false)) (cond b2 (Quota.set q.k n (ds k).k) q.k) (cond b3 (Quota.set q.b n (ds k).b) q.b) w2)) (by kernel_rfl) (by kernel_rfl) (by kernel_rfl) (Turn4.start (HMb.out.keep ((Below.refl _ _).drew))) ?_
                      dsimp only [List.take]
                      iterate 17
                        refine Seq4.calm (a' := ?_) (by decide) (by decide) (by decide) (by decide) ?_ ?_ ?_
                        rotate_left
                        ·
                          intro b1 b2 b3 b4 w1 e1 f1 e2 f2 e3 f3 e4 f4 hw1
                          have HW1 := hid hw1
                          have hbel := hw1.g.bel
                          clear hw1 e1 f1 e2 f2 e3 f3 e4 f4
                          obtain ⟨_, _, eA, _, ⟨_, _, d2, d3⟩, _⟩ := call_facts HD.out hbel HLT.out.1
                          simp only [Option.some.injEq, Addr.mk.injEq, and_true] at eA
                          obtain ⟨rfl, rfl⟩ := eA
                          clear hbel
                          go_wp2_with fail
                          refine ⟨?_, HW1.out⟩
                          exact rfl
                        · kernel_rfl
                      refine Seq4.at1 (a' := ?_) (by decide) (by decide) (by decide) ?_ ?_ ?_
                      rotate_left
                      ·
                        intro b2 b3 b4 w1 e2 f2 e3 f3 e4 f4 hw1
                        have HW1 := hid (hw1.seto hn4 true)
                        have y0 := hw1.foa.get hn4
                        have y1 := hw1.foa.free n
                        clear hw1 e2 f2 e3 f3 e4 f4
                        go_wp2_with fail
                        refine ⟨?_, HW1.out⟩
                        exact rfl
                      · kernel_rfl
                      refine Seq4.calm (a' := ?_) (by decide) (by decide) (by decide) (by decide) ?_ ?_ ?_
                      rotate_left
                      ·
                        intro b1 b2 b3 b4 w1 e1 f1 e2 f2 e3 f3 e4 f4 hw1
                        have HW1 := hid hw1
                        have hbel := hw1.g.bel
                        clear hw1 e1 f1 e2 f2 e3 f3 e4 f4
                        obtain ⟨_, _, eA, _, ⟨_, _, d2, d3⟩, _⟩ := call_facts HD.out hbel HLT.out.1
                        simp only [Option.some.injEq, Addr.mk.injEq, and_true] at eA
                        obtain ⟨rfl, rfl⟩ := eA
                        clear hbel
                        go_wp2_with fail
                        refine ⟨?_, HW1.out⟩
                        exact rfl
                      · kernel_rfl
                      refine Seq4.at2 (a' := ?_) (by decide) (by decide) (by decide) ?_ ?_ ?_
                      rotate_left
                      ·
                        intro b1 b3 b4 w1 e1 f1 e3 f3 e4 f4 hw1
                        have HW1 := hid (hw1.setk hn4 (ds k).k)
                        have y0 := hw1.fka.get hn4
                        have y1 := hw1.fka.free n
                        clear hw1 e1 f1 e3 f3 e4 f4
                        go_wp2_with fail
                        refine ⟨?_, HW1.out⟩
                        exact rfl
                      · kernel_rfl
                      refine Seq4.calm (a' := ?_) (by decide) (by decide) (by decide) (by decide) ?_ ?_ ?_
                      rotate_left
                      ·
                        intro b1 b2 b3 b4 w1 e1 f1 e2 f2 e3 f3 e4 f4 hw1
                        have HW1 := hid hw1
                        have hbel := hw1.g.bel
                        clear hw1 e1 f1 e2 f2 e3 f3 e4 f4
                        obtain ⟨_, _, eA, _, ⟨_, _, d2, d3⟩, _⟩ := call_facts HD.out hbel HLT.out.1
                        simp only [Option.some.injEq, Addr.mk.injEq, and_true] at eA
                        obtain ⟨rfl, rfl⟩ := eA
                        clear hbel
                        go_wp2_with fail
                        refine ⟨?_, HW1.out⟩
                        exact rfl
                      · kernel_rfl
                      refine Seq4.at3 (a' := ?_) (by decide) (by decide) (by decide) ?_ ?_ ?_
                      rotate_left
                      ·
                        intro b1 b2 b4 w1 e1 f1 e2 f2 e4 f4 hw1
                        have HW1 := hid (hw1.setb hn4 (ds k).b)
                        have y0 := hw1.fba.get hn4
                        have y1 := hw1.fba.free n
                        clear hw1 e1 f1 e2 f2 e4 f4
                        go_wp2_with fail
                        refine ⟨?_, HW1.out⟩
                        exact rfl
                      · kernel_rfl
                      refine SeqC.nil ?_
                      intro D w2 hD hI
                      obtain ⟨_, hI⟩ := hI.done3 (hD 17 (by omega)) (hD 19 (by omega)) (hD 21 (by omega))
                      clear hD HMb
                      dsimp only [List.drop]
                      have HR5 : Hid (RAt w ⟨x, t, p, m, ga, oa, ka, ba, gb⟩ (resQ q n (ds k).k (ds k).b) w2) := hid (hI.done HRF.out.1 HRF.out.2.1 HRF.out.2.2)
                      have HQ5 := hid HR4.out.1
                      have e1 := HR4.out.2.1
                      have e2 := HR4.out.2.2.1
                      clear hI HR4 HRF
                      go_wp2_with fail
                      have hR0 := has_q HR5.out.g
                      rw [e1, e2] at hR0
                      refine hR0.mono ?_
                      rintro e w7 ⟨rfl, hG7, hB7⟩
                      clear hR0
                      have HR7 := hid ((HR5.out.keep hB7).keep ((Below.refl _ _).alloc (Nat.le_refl _) (.cells #[.int .u64 q.s.hk, .int .u64 q.s.hb] 31 (0, 0))))
                      have q0 := cell_of (heap_new w7 (.cells #[.int .u64 q.s.hk, .int .u64 q.s.hb] 31 (0, 0))) 0
                      have q1 := cell_of (heap_new w7 (.cells #[.int .u64 q.s.hk, .int .u64 q.s.hb] 31 (0, 0))) 1
                      have bb := HQ5.out.bnd
                      rw [e1, e2] at bb
                      obtain ⟨b1, b2, b3, b4⟩ := bb
                      have E1 := hid e1
                      have E2 := hid e2
                      clear hG7 hB7 e1 e2
                      go_wp2_with fail
                      go_roundg (200 - (k + 1))
                      case measure => have := HLT.out; omega
                      case rel => exact ⟨k + 1, (resQ q n (ds k).k (ds k).b), by have := HLT.out; omega, by have := HLT.out; omega, by have := HLT.out; omega, by go_num, by rw [E1.out], by rw [E2.out], HQ5.out, HR7.out⟩
                  · have HF : Hid (fitQ q n (ds k).k (ds k).b = false) := hid (by rw [hfit]; simp [f2])
                    clear hfit
                    as_aux_lemma =>
                      have hr4 := HQ.out.res hn4 ⟨rk1, rk2⟩ ⟨rb1, rb2⟩
                      have hrf := res_fields HQ.out hn4 ⟨rk1, rk2⟩ ⟨rb1, rb2⟩
                      rw [HF.out] at hrf
                      have HRF := hid hrf
                      have HR4 := hid hr4
                      clear hr4 hrf
                      have hmReserve : ∀ (w : World) (b : Nat), (method 281 84 (.pointer (some ⟨b, 0, none⟩)) "Reserve").run Try.prog w = .ok (91, .pointer (some ⟨b, 0, none⟩)) w := fun w b => by kernel_rfl
                      go_wp2_with fail
                      refine wp_region_seqI 20 (Turn 18 (fun w1 => Mod (GOwn (gb n) p m) wr w1 ∧ MAt w ⟨x, t, p, m, ga, oa, ka, ba, gb⟩ q (Quota.set q.o n false) q.k q.b w1) (fun w1 => Mod (GOwn (gb n) p m) wr w1 ∧ MAt w ⟨x, t, p, m, ga, oa, ka, ba, gb⟩ (resQ q n (ds k).k (ds k).b) (Quota.set q.o n false) q.k q.b w1)) (by kernel_rfl) (by kernel_rfl) (by kernel_rfl) (Turn.start ⟨(Mod.refl _ wr).drew, HM.out.keep ((Below.refl _ _).drew)⟩) ?_
                      dsimp only [List.take]
                      iterate 18
                        refine Seq.calm (a' := ?_) (by decide) ?_ ?_ ?_
                        rotate_left
                        ·
                          intro w1 hw1
                          have hga := hw1.elim (fun h => h.2.fga) (fun h => h.2.fga)
                          have hbel := hw1.elim (fun h => h.2.g.bel) (fun h => h.2.g.bel)
                          have g0 := hga.get hn4
                          clear hga hw1
                          obtain ⟨_, _, eA, _, ⟨_, _, d2, d3⟩, _⟩ := call_facts HD.out hbel HLT.out.1
                          simp only [Option.some.injEq, Addr.mk.injEq, and_true] at eA
                          obtain ⟨rfl, rfl⟩ := eA
                          clear hbel
                          go_wp2_with (fail)
                          first | (refine ⟨?_, id, id⟩; exact rfl) | (refine ⟨?_, (by first | exact id | exact fun h1 h2 => ⟨h1, h2⟩), (by first | exact id | exact fun h1 h2 => ⟨h1, h2⟩)⟩; exact rfl)
                        · kernel_rfl
                      refine Seq.turn (a' := ?_) ?_ ?_ ?_
                      rotate_left
                      ·
                        intro w1 hw1
                        have HM1 := hid hw1.1
                        have HM2 := hid hw1.2
                        clear hw1
                        have R := res_q HM2.out.g HQ.out (by have := HLT.out; omega) hn4 (ds k).k (ds k).b ⟨rk1, rk2⟩ ⟨rb1, rb2⟩
                        rw [HF.out] at R
                        simp only [if_true, if_false, Bool.false_eq_true] at R
                        have HRR := hid R
                        clear R
                        go_wp2_with (go_at_call 91; refine HRR.out.mono ?_; rintro e w2 ⟨rfl, hG, hM⟩)
                        refine ⟨?_, HM1.out.trans hM (fun _ _ h => h), HM2.out.gate hn4 hG hM⟩
                        exact rfl
                      · kernel_rfl
                      iterate 1
                        refine Seq.calm (a' := ?_) (by decide) ?_ ?_ ?_
                        rotate_left
                        ·
                          intro w1 hw1
                          have hga := hw1.elim (fun h => h.2.fga) (fun h => h.2.fga)
                          have hbel := hw1.elim (fun h => h.2.g.bel) (fun h => h.2.g.bel)
                          have g0 := hga.get hn4
                          clear hga hw1
                          obtain ⟨_, _, eA, _, ⟨_, _, d2, d3⟩, _⟩ := call_facts HD.out hbel HLT.out.1
                          simp only [Option.some.injEq, Addr.mk.injEq, and_true] at eA
                          obtain ⟨rfl, rfl⟩ := eA
                          clear hbel
                          go_wp2_with (fail)
                          first | (refine ⟨?_, id, id⟩; exact rfl) | (refine ⟨?_, (by first | exact id | exact fun h1 h2 => ⟨h1, h2⟩), (by first | exact id | exact fun h1 h2 => ⟨h1, h2⟩)⟩; exact rfl)
                        · kernel_rfl
                      refine SeqI.nil ?_
                      intro D w1 hD hI
                      replace hI := hI.done (hD 18 (by omega))
                      clear hD
                      dsimp only [List.drop]
                      have HMb := hid hI.2
                      clear hI HM
                      go_wp2_with fail
                      refine wp_region_seqC 22 (Turn4 17 19 21 99 (fun b1 b2 b3 _ w2 => MAt w ⟨x, t, p, m, ga, oa, ka, ba, gb⟩ (resQ q n (ds k).k (ds k).b) (cond b1 (Quota.set (Quota.set q.o n false) n false) (Quota.set q.o n false)) (cond b2 (Quota.set q.k n (ds k).k) q.k) (cond b3 (Quota.set q.b n (ds k).b) q.b) w2)) (by kernel_rfl) (by kernel_rfl) (by kernel_rfl) (Turn4.start (HMb.out.keep ((Below.refl _ _).drew))) ?_
                      dsimp only [List.take]
                      iterate 17
                        refine Seq4.calm (a' := ?_) (by decide) (by decide) (by decide) (by decide) ?_ ?_ ?_
                        rotate_left
                        ·
                          intro b1 b2 b3 b4 w1 e1 f1 e2 f2 e3 f3 e4 f4 hw1
                          have HW1 := hid hw1
                          have hbel := hw1.g.bel
                          clear hw1 e1 f1 e2 f2 e3 f3 e4 f4
                          obtain ⟨_, _, eA, _, ⟨_, _, d2, d3⟩, _⟩ := call_facts HD.out hbel HLT.out.1
                          simp only [Option.some.injEq, Addr.mk.injEq, and_true] at eA
                          obtain ⟨rfl, rfl⟩ := eA
                          clear hbel
                          go_wp2_with fail
                          refine ⟨?_, HW1.out⟩
                          exact rfl
                        · kernel_rfl
                      refine Seq4.at1 (a' := ?_) (by decide) (by decide) (by decide) ?_ ?_ ?_
                      rotate_left
                      ·
                        intro b2 b3 b4 w1 e2 f2 e3 f3 e4 f4 hw1
                        have HW1 := hid (hw1.seto hn4 false)
                        have y0 := hw1.foa.get hn4
                        have y1 := hw1.foa.free n
                        clear hw1 e2 f2 e3 f3 e4 f4
                        go_wp2_with fail
                        refine ⟨?_, HW1.out⟩
                        exact rfl
                      · kernel_rfl
                      refine Seq4.calm (a' := ?_) (by decide) (by decide) (by decide) (by decide) ?_ ?_ ?_
                      rotate_left
                      ·
                        intro b1 b2 b3 b4 w1 e1 f1 e2 f2 e3 f3 e4 f4 hw1
                        have HW1 := hid hw1
                        have hbel := hw1.g.bel
                        clear hw1 e1 f1 e2 f2 e3 f3 e4 f4
                        obtain ⟨_, _, eA, _, ⟨_, _, d2, d3⟩, _⟩ := call_facts HD.out hbel HLT.out.1
                        simp only [Option.some.injEq, Addr.mk.injEq, and_true] at eA
                        obtain ⟨rfl, rfl⟩ := eA
                        clear hbel
                        go_wp2_with fail
                        refine ⟨?_, HW1.out⟩
                        exact rfl
                      · kernel_rfl
                      refine Seq4.at2 (a' := ?_) (by decide) (by decide) (by decide) ?_ ?_ ?_
                      rotate_left
                      ·
                        intro b1 b3 b4 w1 e1 f1 e3 f3 e4 f4 hw1
                        have HW1 := hid (hw1.setk hn4 (ds k).k)
                        have y0 := hw1.fka.get hn4
                        have y1 := hw1.fka.free n
                        clear hw1 e1 f1 e3 f3 e4 f4
                        go_wp2_with fail
                        refine ⟨?_, HW1.out⟩
                        exact rfl
                      · kernel_rfl
                      refine Seq4.calm (a' := ?_) (by decide) (by decide) (by decide) (by decide) ?_ ?_ ?_
                      rotate_left
                      ·
                        intro b1 b2 b3 b4 w1 e1 f1 e2 f2 e3 f3 e4 f4 hw1
                        have HW1 := hid hw1
                        have hbel := hw1.g.bel
                        clear hw1 e1 f1 e2 f2 e3 f3 e4 f4
                        obtain ⟨_, _, eA, _, ⟨_, _, d2, d3⟩, _⟩ := call_facts HD.out hbel HLT.out.1
                        simp only [Option.some.injEq, Addr.mk.injEq, and_true] at eA
                        obtain ⟨rfl, rfl⟩ := eA
                        clear hbel
                        go_wp2_with fail
                        refine ⟨?_, HW1.out⟩
                        exact rfl
                      · kernel_rfl
                      refine Seq4.at3 (a' := ?_) (by decide) (by decide) (by decide) ?_ ?_ ?_
                      rotate_left
                      ·
                        intro b1 b2 b4 w1 e1 f1 e2 f2 e4 f4 hw1
                        have HW1 := hid (hw1.setb hn4 (ds k).b)
                        have y0 := hw1.fba.get hn4
                        have y1 := hw1.fba.free n
                        clear hw1 e1 f1 e2 f2 e4 f4
                        go_wp2_with fail
                        refine ⟨?_, HW1.out⟩
                        exact rfl
                      · kernel_rfl
                      refine SeqC.nil ?_
                      intro D w2 hD hI
                      obtain ⟨_, hI⟩ := hI.done3 (hD 17 (by omega)) (hD 19 (by omega)) (hD 21 (by omega))
                      clear hD HMb
                      dsimp only [List.drop]
                      have HR5 : Hid (RAt w ⟨x, t, p, m, ga, oa, ka, ba, gb⟩ (resQ q n (ds k).k (ds k).b) w2) := hid (hI.done HRF.out.1 HRF.out.2.1 HRF.out.2.2)
                      have HQ5 := hid HR4.out.1
                      have e1 := HR4.out.2.1
                      have e2 := HR4.out.2.2.1
                      clear hI HR4 HRF
                      go_wp2_with fail
                      have hR0 := has_q HR5.out.g
                      rw [e1, e2] at hR0
                      refine hR0.mono ?_
                      rintro e w7 ⟨rfl, hG7, hB7⟩
                      clear hR0
                      have HR7 := hid ((HR5.out.keep hB7).keep ((Below.refl _ _).alloc (Nat.le_refl _) (.cells #[.int .u64 q.s.hk, .int .u64 q.s.hb] 31 (0, 0))))
                      have q0 := cell_of (heap_new w7 (.cells #[.int .u64 q.s.hk, .int .u64 q.s.hb] 31 (0, 0))) 0
                      have q1 := cell_of (heap_new w7 (.cells #[.int .u64 q.s.hk, .int .u64 q.s.hb] 31 (0, 0))) 1
                      have bb := HQ5.out.bnd
                      rw [e1, e2] at bb
                      obtain ⟨b1, b2, b3, b4⟩ := bb
                      have E1 := hid e1
                      have E2 := hid e2
                      clear hG7 hB7 e1 e2
                      go_wp2_with fail
                      go_roundg (200 - (k + 1))
                      case measure => have := HLT.out; omega
                      case rel => exact ⟨k + 1, (resQ q n (ds k).k (ds k).b), by have := HLT.out; omega, by have := HLT.out; omega, by have := HLT.out; omega, by go_num, by rw [E1.out], by rw [E2.out], HQ5.out, HR7.out⟩
                · have HF : Hid (fitQ q n (ds k).k (ds k).b = false) := hid (by rw [hfit]; simp [f1])
                  clear hfit
                  as_aux_lemma =>
                    have hr4 := HQ.out.res hn4 ⟨rk1, rk2⟩ ⟨rb1, rb2⟩
                    have hrf := res_fields HQ.out hn4 ⟨rk1, rk2⟩ ⟨rb1, rb2⟩
                    rw [HF.out] at hrf
                    have HRF := hid hrf
                    have HR4 := hid hr4
                    clear hr4 hrf
                    have hmReserve : ∀ (w : World) (b : Nat), (method 281 84 (.pointer (some ⟨b, 0, none⟩)) "Reserve").run Try.prog w = .ok (91, .pointer (some ⟨b, 0, none⟩)) w := fun w b => by kernel_rfl
                    go_wp2_with fail
                    refine wp_region_seqI 20 (Turn 18 (fun w1 => Mod (GOwn (gb n) p m) wr w1 ∧ MAt w ⟨x, t, p, m, ga, oa, ka, ba, gb⟩ q (Quota.set q.o n false) q.k q.b w1) (fun w1 => Mod (GOwn (gb n) p m) wr w1 ∧ MAt w ⟨x, t, p, m, ga, oa, ka, ba, gb⟩ (resQ q n (ds k).k (ds k).b) (Quota.set q.o n false) q.k q.b w1)) (by kernel_rfl) (by kernel_rfl) (by kernel_rfl) (Turn.start ⟨(Mod.refl _ wr).drew, HM.out.keep ((Below.refl _ _).drew)⟩) ?_
                    dsimp only [List.take]
                    iterate 18
                      refine Seq.calm (a' := ?_) (by decide) ?_ ?_ ?_
                      rotate_left
                      ·
                        intro w1 hw1
                        have hga := hw1.elim (fun h => h.2.fga) (fun h => h.2.fga)
                        have hbel := hw1.elim (fun h => h.2.g.bel) (fun h => h.2.g.bel)
                        have g0 := hga.get hn4
                        clear hga hw1
                        obtain ⟨_, _, eA, _, ⟨_, _, d2, d3⟩, _⟩ := call_facts HD.out hbel HLT.out.1
                        simp only [Option.some.injEq, Addr.mk.injEq, and_true] at eA
                        obtain ⟨rfl, rfl⟩ := eA
                        clear hbel
                        go_wp2_with (fail)
                        first | (refine ⟨?_, id, id⟩; exact rfl) | (refine ⟨?_, (by first | exact id | exact fun h1 h2 => ⟨h1, h2⟩), (by first | exact id | exact fun h1 h2 => ⟨h1, h2⟩)⟩; exact rfl)
                      · kernel_rfl
                    refine Seq.turn (a' := ?_) ?_ ?_ ?_
                    rotate_left
                    ·
                      intro w1 hw1
                      have HM1 := hid hw1.1
                      have HM2 := hid hw1.2
                      clear hw1
                      have R := res_q HM2.out.g HQ.out (by have := HLT.out; omega) hn4 (ds k).k (ds k).b ⟨rk1, rk2⟩ ⟨rb1, rb2⟩
                      rw [HF.out] at R
                      simp only [if_true, if_false, Bool.false_eq_true] at R
                      have HRR := hid R
                      clear R
                      go_wp2_with (go_at_call 91; refine HRR.out.mono ?_; rintro e w2 ⟨rfl, hG, hM⟩)
                      refine ⟨?_, HM1.out.trans hM (fun _ _ h => h), HM2.out.gate hn4 hG hM⟩
                      exact rfl
                    · kernel_rfl
                    iterate 1
                      refine Seq.calm (a' := ?_) (by decide) ?_ ?_ ?_
                      rotate_left
                      ·
                        intro w1 hw1
                        have hga := hw1.elim (fun h => h.2.fga) (fun h => h.2.fga)
                        have hbel := hw1.elim (fun h => h.2.g.bel) (fun h => h.2.g.bel)
                        have g0 := hga.get hn4
                        clear hga hw1
                        obtain ⟨_, _, eA, _, ⟨_, _, d2, d3⟩, _⟩ := call_facts HD.out hbel HLT.out.1
                        simp only [Option.some.injEq, Addr.mk.injEq, and_true] at eA
                        obtain ⟨rfl, rfl⟩ := eA
                        clear hbel
                        go_wp2_with (fail)
                        first | (refine ⟨?_, id, id⟩; exact rfl) | (refine ⟨?_, (by first | exact id | exact fun h1 h2 => ⟨h1, h2⟩), (by first | exact id | exact fun h1 h2 => ⟨h1, h2⟩)⟩; exact rfl)
                      · kernel_rfl
                    refine SeqI.nil ?_
                    intro D w1 hD hI
                    replace hI := hI.done (hD 18 (by omega))
                    clear hD
                    dsimp only [List.drop]
                    have HMb := hid hI.2
                    clear hI HM
                    go_wp2_with fail
                    refine wp_region_seqC 22 (Turn4 17 19 21 99 (fun b1 b2 b3 _ w2 => MAt w ⟨x, t, p, m, ga, oa, ka, ba, gb⟩ (resQ q n (ds k).k (ds k).b) (cond b1 (Quota.set (Quota.set q.o n false) n false) (Quota.set q.o n false)) (cond b2 (Quota.set q.k n (ds k).k) q.k) (cond b3 (Quota.set q.b n (ds k).b) q.b) w2)) (by kernel_rfl) (by kernel_rfl) (by kernel_rfl) (Turn4.start (HMb.out.keep ((Below.refl _ _).drew))) ?_
                    dsimp only [List.take]
                    iterate 17
                      refine Seq4.calm (a' := ?_) (by decide) (by decide) (by decide) (by decide) ?_ ?_ ?_
                      rotate_left
                      ·
                        intro b1 b2 b3 b4 w1 e1 f1 e2 f2 e3 f3 e4 f4 hw1
                        have HW1 := hid hw1
                        have hbel := hw1.g.bel
                        clear hw1 e1 f1 e2 f2 e3 f3 e4 f4
                        obtain ⟨_, _, eA, _, ⟨_, _, d2, d3⟩, _⟩ := call_facts HD.out hbel HLT.out.1
                        simp only [Option.some.injEq, Addr.mk.injEq, and_true] at eA
                        obtain ⟨rfl, rfl⟩ := eA
                        clear hbel
                        go_wp2_with fail
                        refine ⟨?_, HW1.out⟩
                        exact rfl
                      · kernel_rfl
                    refine Seq4.at1 (a' := ?_) (by decide) (by decide) (by decide) ?_ ?_ ?_
                    rotate_left
                    ·
                      intro b2 b3 b4 w1 e2 f2 e3 f3 e4 f4 hw1
                      have HW1 := hid (hw1.seto hn4 false)
                      have y0 := hw1.foa.get hn4
                      have y1 := hw1.foa.free n
                      clear hw1 e2 f2 e3 f3 e4 f4
                      go_wp2_with fail
                      refine ⟨?_, HW1.out⟩
                      exact rfl
                    · kernel_rfl
                    refine Seq4.calm (a' := ?_) (by decide) (by decide) (by decide) (by decide) ?_ ?_ ?_
                    rotate_left
                    ·
                      intro b1 b2 b3 b4 w1 e1 f1 e2 f2 e3 f3 e4 f4 hw1
                      have HW1 := hid hw1
                      have hbel := hw1.g.bel
                      clear hw1 e1 f1 e2 f2 e3 f3 e4 f4
                      obtain ⟨_, _, eA, _, ⟨_, _, d2, d3⟩, _⟩ := call_facts HD.out hbel HLT.out.1
                      simp only [Option.some.injEq, Addr.mk.injEq, and_true] at eA
                      obtain ⟨rfl, rfl⟩ := eA
                      clear hbel
                      go_wp2_with fail
                      refine ⟨?_, HW1.out⟩
                      exact rfl
                    · kernel_rfl
                    refine Seq4.at2 (a' := ?_) (by decide) (by decide) (by decide) ?_ ?_ ?_
                    rotate_left
                    ·
                      intro b1 b3 b4 w1 e1 f1 e3 f3 e4 f4 hw1
                      have HW1 := hid (hw1.setk hn4 (ds k).k)
                      have y0 := hw1.fka.get hn4
                      have y1 := hw1.fka.free n
                      clear hw1 e1 f1 e3 f3 e4 f4
                      go_wp2_with fail
                      refine ⟨?_, HW1.out⟩
                      exact rfl
                    · kernel_rfl
                    refine Seq4.calm (a' := ?_) (by decide) (by decide) (by decide) (by decide) ?_ ?_ ?_
                    rotate_left
                    ·
                      intro b1 b2 b3 b4 w1 e1 f1 e2 f2 e3 f3 e4 f4 hw1
                      have HW1 := hid hw1
                      have hbel := hw1.g.bel
                      clear hw1 e1 f1 e2 f2 e3 f3 e4 f4
                      obtain ⟨_, _, eA, _, ⟨_, _, d2, d3⟩, _⟩ := call_facts HD.out hbel HLT.out.1
                      simp only [Option.some.injEq, Addr.mk.injEq, and_true] at eA
                      obtain ⟨rfl, rfl⟩ := eA
                      clear hbel
                      go_wp2_with fail
                      refine ⟨?_, HW1.out⟩
                      exact rfl
                    · kernel_rfl
                    refine Seq4.at3 (a' := ?_) (by decide) (by decide) (by decide) ?_ ?_ ?_
                    rotate_left
                    ·
                      intro b1 b2 b4 w1 e1 f1 e2 f2 e4 f4 hw1
                      have HW1 := hid (hw1.setb hn4 (ds k).b)
                      have y0 := hw1.fba.get hn4
                      have y1 := hw1.fba.free n
                      clear hw1 e1 f1 e2 f2 e4 f4
                      go_wp2_with fail
                      refine ⟨?_, HW1.out⟩
                      exact rfl
                    · kernel_rfl
                    refine SeqC.nil ?_
                    intro D w2 hD hI
                    obtain ⟨_, hI⟩ := hI.done3 (hD 17 (by omega)) (hD 19 (by omega)) (hD 21 (by omega))
                    clear hD HMb
                    dsimp only [List.drop]
                    have HR5 : Hid (RAt w ⟨x, t, p, m, ga, oa, ka, ba, gb⟩ (resQ q n (ds k).k (ds k).b) w2) := hid (hI.done HRF.out.1 HRF.out.2.1 HRF.out.2.2)
                    have HQ5 := hid HR4.out.1
                    have e1 := HR4.out.2.1
                    have e2 := HR4.out.2.2.1
                    clear hI HR4 HRF
                    go_wp2_with fail
                    have hR0 := has_q HR5.out.g
                    rw [e1, e2] at hR0
                    refine hR0.mono ?_
                    rintro e w7 ⟨rfl, hG7, hB7⟩
                    clear hR0
                    have HR7 := hid ((HR5.out.keep hB7).keep ((Below.refl _ _).alloc (Nat.le_refl _) (.cells #[.int .u64 q.s.hk, .int .u64 q.s.hb] 31 (0, 0))))
                    have q0 := cell_of (heap_new w7 (.cells #[.int .u64 q.s.hk, .int .u64 q.s.hb] 31 (0, 0))) 0
                    have q1 := cell_of (heap_new w7 (.cells #[.int .u64 q.s.hk, .int .u64 q.s.hb] 31 (0, 0))) 1
                    have bb := HQ5.out.bnd
                    rw [e1, e2] at bb
                    obtain ⟨b1, b2, b3, b4⟩ := bb
                    have E1 := hid e1
                    have E2 := hid e2
                    clear hG7 hB7 e1 e2
                    go_wp2_with fail
                    go_roundg (200 - (k + 1))
                    case measure => have := HLT.out; omega
                    case rel => exact ⟨k + 1, (resQ q n (ds k).k (ds k).b), by have := HLT.out; omega, by have := HLT.out; omega, by have := HLT.out; omega, by go_num, by rw [E1.out], by rw [E2.out], HQ5.out, HR7.out⟩
          · as_aux_lemma =>
              clear hok hlt
              have hmCommit : ∀ (w : World) (b : Nat), (method 281 84 (.pointer (some ⟨b, 0, none⟩)) "Commit").run Try.prog w = .ok (89, .pointer (some ⟨b, 0, none⟩)) w := fun w b => by kernel_rfl
              have hmx := run_max0
              go_wp2_with fail
              refine (com_q HR.out.g HQ.out hn4).mono ?_
              rintro e w5 ⟨rfl, hG, hM⟩
              have HR5 : Hid (RAt w ⟨x, t, p, m, ga, oa, ka, ba, gb⟩ (comQ q n) (w5.setCell ⟨oa, n, none⟩ (.bool false))) := hid (HR.out.shut hn4 hG hM rfl rfl rfl)
              have hA := HR.out.arrs hn4 hM
              have o5 := hA.2.1.get hn4
              have o5f := hA.2.1.free n
              have k5 := hA.2.2.1.get hn4
              have b5 := hA.2.2.2.get hn4
              have HQ5 := hid ((HQ.out.com hn4).1.mono (Nat.le_succ k))
              have e1 := (HQ.out.com hn4).2.1
              have e2 := (HQ.out.com hn4).2.2
              obtain ⟨rk1, rk2⟩ := HQ.out.rk n hn4
              obtain ⟨rb1, rb2⟩ := HQ.out.rb n hn4
              obtain ⟨z1, z2, z3, z4⟩ := HQ.out.bnd
              have hx0 := hxk.2
              have hx1 := hxb.2
              clear ha haf hg hG hM hA d0 d1 d2 d3
              cases hon : q.o n
              · have hH : comH q n = (q.s.hk, q.s.hb) := by simp [comH, hon]
                rw [hH] at e1 e2
                simp only [hon] at o5
                have HON := hid hon
                clear hH hon
                go_wp2_with fail
                have hR0 := has_q HR5.out.g
                rw [e1, e2] at hR0
                refine hR0.mono ?_
                rintro e w7 ⟨rfl, hG7, hB7⟩
                clear hR0
                have HR7 := hid ((HR5.out.keep hB7).keep ((Below.refl _ _).alloc (Nat.le_refl _) (.cells #[.int .u64 q.s.hk, .int .u64 q.s.hb] 31 (0, 0))))
                have q0 := cell_of (heap_new w7 (.cells #[.int .u64 q.s.hk, .int .u64 q.s.hb] 31 (0, 0))) 0
                have q1 := cell_of (heap_new w7 (.cells #[.int .u64 q.s.hk, .int .u64 q.s.hb] 31 (0, 0))) 1
                have bb := HQ5.out.bnd
                rw [e1, e2] at bb
                obtain ⟨b1, b2, b3, b4⟩ := bb
                have E1 := hid e1
                have E2 := hid e2
                clear hG7 hB7 e1 e2
                go_wp2_with fail
                go_roundg (200 - (k + 1))
                case measure => have := HLT.out; omega
                case rel => exact ⟨k + 1, (comQ q n), by have := HLT.out; omega, by have := HLT.out; omega, by have := HLT.out; omega, by go_num, by rw [E1.out], by rw [E2.out], HQ5.out, HR7.out⟩
              · simp only [hon] at o5
                by_cases c1 : max (-q.k n) 0 ≤ q.s.hk + max (q.k n) 0
                · by_cases c2 : max (-q.b n) 0 ≤ q.s.hb + max (q.b n) 0
                  · have hH : comH q n = (q.s.hk + max (q.k n) 0 - max (-q.k n) 0, q.s.hb + max (q.b n) 0 - max (-q.b n) 0) := by
                      unfold comH
                      rw [if_pos hon, if_pos ⟨c1, c2⟩]
                    rw [hH] at e1 e2
                    have HON := hid hon
                    clear hH hon
                    go_wp2_with fail
                    have hR0 := has_q HR5.out.g
                    rw [e1, e2] at hR0
                    refine hR0.mono ?_
                    rintro e w7 ⟨rfl, hG7, hB7⟩
                    clear hR0
                    have HR7 := hid ((HR5.out.keep hB7).keep ((Below.refl _ _).alloc (Nat.le_refl _) (.cells #[.int .u64 (q.s.hk + max (q.k n) 0 - max (-q.k n) 0), .int .u64 (q.s.hb + max (q.b n) 0 - max (-q.b n) 0)] 31 (0, 0))))
                    have q0 := cell_of (heap_new w7 (.cells #[.int .u64 (q.s.hk + max (q.k n) 0 - max (-q.k n) 0), .int .u64 (q.s.hb + max (q.b n) 0 - max (-q.b n) 0)] 31 (0, 0))) 0
                    have q1 := cell_of (heap_new w7 (.cells #[.int .u64 (q.s.hk + max (q.k n) 0 - max (-q.k n) 0), .int .u64 (q.s.hb + max (q.b n) 0 - max (-q.b n) 0)] 31 (0, 0))) 1
                    have bb := HQ5.out.bnd
                    rw [e1, e2] at bb
                    obtain ⟨b1, b2, b3, b4⟩ := bb
                    have E1 := hid e1
                    have E2 := hid e2
                    clear hG7 hB7 e1 e2
                    go_wp2_with fail
                    go_roundg (200 - (k + 1))
                    case measure => have := HLT.out; omega
                    case rel => exact ⟨k + 1, (comQ q n), by have := HLT.out; omega, by have := HLT.out; omega, by have := HLT.out; omega, by go_num, by rw [E1.out], by rw [E2.out], HQ5.out, HR7.out⟩
                  · have hH : comH q n = (q.s.hk + max (q.k n) 0, q.s.hb + max (q.b n) 0) := by
                      unfold comH
                      rw [if_pos hon, if_neg (fun h => c2 h.2)]
                    rw [hH] at e1 e2
                    have HON := hid hon
                    clear hH hon
                    go_wp2_with fail
                    have hR0 := has_q HR5.out.g
                    rw [e1, e2] at hR0
                    refine hR0.mono ?_
                    rintro e w7 ⟨rfl, hG7, hB7⟩
                    clear hR0
                    have HR7 := hid ((HR5.out.keep hB7).keep ((Below.refl _ _).alloc (Nat.le_refl _) (.cells #[.int .u64 (q.s.hk + max (q.k n) 0), .int .u64 (q.s.hb + max (q.b n) 0)] 31 (0, 0))))
                    have q0 := cell_of (heap_new w7 (.cells #[.int .u64 (q.s.hk + max (q.k n) 0), .int .u64 (q.s.hb + max (q.b n) 0)] 31 (0, 0))) 0
                    have q1 := cell_of (heap_new w7 (.cells #[.int .u64 (q.s.hk + max (q.k n) 0), .int .u64 (q.s.hb + max (q.b n) 0)] 31 (0, 0))) 1
                    have bb := HQ5.out.bnd
                    rw [e1, e2] at bb
                    obtain ⟨b1, b2, b3, b4⟩ := bb
                    have E1 := hid e1
                    have E2 := hid e2
                    clear hG7 hB7 e1 e2
                    go_wp2_with fail
                    go_roundg (200 - (k + 1))
                    case measure => have := HLT.out; omega
                    case rel => exact ⟨k + 1, (comQ q n), by have := HLT.out; omega, by have := HLT.out; omega, by have := HLT.out; omega, by go_num, by rw [E1.out], by rw [E2.out], HQ5.out, HR7.out⟩
                · have hH : comH q n = (q.s.hk + max (q.k n) 0, q.s.hb + max (q.b n) 0) := by
                    unfold comH
                    rw [if_pos hon, if_neg (fun h => c1 h.1)]
                  rw [hH] at e1 e2
                  have HON := hid hon
                  clear hH hon
                  go_wp2_with fail
                  have hR0 := has_q HR5.out.g
                  rw [e1, e2] at hR0
                  refine hR0.mono ?_
                  rintro e w7 ⟨rfl, hG7, hB7⟩
                  clear hR0
                  have HR7 := hid ((HR5.out.keep hB7).keep ((Below.refl _ _).alloc (Nat.le_refl _) (.cells #[.int .u64 (q.s.hk + max (q.k n) 0), .int .u64 (q.s.hb + max (q.b n) 0)] 31 (0, 0))))
                  have q0 := cell_of (heap_new w7 (.cells #[.int .u64 (q.s.hk + max (q.k n) 0), .int .u64 (q.s.hb + max (q.b n) 0)] 31 (0, 0))) 0
                  have q1 := cell_of (heap_new w7 (.cells #[.int .u64 (q.s.hk + max (q.k n) 0), .int .u64 (q.s.hb + max (q.b n) 0)] 31 (0, 0))) 1
                  have bb := HQ5.out.bnd
                  rw [e1, e2] at bb
                  obtain ⟨b1, b2, b3, b4⟩ := bb
                  have E1 := hid e1
                  have E2 := hid e2
                  clear hG7 hB7 e1 e2
                  go_wp2_with fail
                  go_roundg (200 - (k + 1))
                  case measure => have := HLT.out; omega
                  case rel => exact ⟨k + 1, (comQ q n), by have := HLT.out; omega, by have := HLT.out; omega, by have := HLT.out; omega, by go_num, by rw [E1.out], by rw [E2.out], HQ5.out, HR7.out⟩
          · as_aux_lemma =>
              clear hok hlt
              have hmRefund : ∀ (w : World) (b : Nat), (method 281 84 (.pointer (some ⟨b, 0, none⟩)) "Refund").run Try.prog w = .ok (90, .pointer (some ⟨b, 0, none⟩)) w := fun w b => by kernel_rfl
              go_wp2_with fail
              refine (ref_q HR.out.g HQ.out hn4).mono ?_
              rintro e w5 ⟨rfl, hG, hM⟩
              have HR5 : Hid (RAt w ⟨x, t, p, m, ga, oa, ka, ba, gb⟩ (refQ q n) (w5.setCell ⟨oa, n, none⟩ (.bool false))) := hid (HR.out.shut hn4 hG hM rfl rfl rfl)
              have o5 := (HR.out.arrs hn4 hM).2.1.get hn4
              have o5f := (HR.out.arrs hn4 hM).2.1.free n
              have HQ5 := hid ((HQ.out.ref hn4).1.mono (Nat.le_succ k))
              have e1 := (HQ.out.ref hn4).2.1
              have e2 := (HQ.out.ref hn4).2.2
              clear ha haf hg hG hM d0 d1 d2 d3
              go_wp2_with fail
              have hR0 := has_q HR5.out.g
              rw [e1, e2] at hR0
              refine hR0.mono ?_
              rintro e w7 ⟨rfl, hG7, hB7⟩
              clear hR0
              have HR7 := hid ((HR5.out.keep hB7).keep ((Below.refl _ _).alloc (Nat.le_refl _) (.cells #[.int .u64 q.s.hk, .int .u64 q.s.hb] 31 (0, 0))))
              have q0 := cell_of (heap_new w7 (.cells #[.int .u64 q.s.hk, .int .u64 q.s.hb] 31 (0, 0))) 0
              have q1 := cell_of (heap_new w7 (.cells #[.int .u64 q.s.hk, .int .u64 q.s.hb] 31 (0, 0))) 1
              have bb := HQ5.out.bnd
              rw [e1, e2] at bb
              obtain ⟨b1, b2, b3, b4⟩ := bb
              have E1 := hid e1
              have E2 := hid e2
              clear hG7 hB7 e1 e2
              go_wp2_with fail
              go_roundg (200 - (k + 1))
              case measure => have := HLT.out; omega
              case rel => exact ⟨k + 1, (refQ q n), by have := HLT.out; omega, by have := HLT.out; omega, by have := HLT.out; omega, by go_num, by rw [E1.out], by rw [E2.out], HQ5.out, HR7.out⟩
        · have hbel := HR.out.g.bel
          have HBL := hid hbel
          clear hbel HR
          by_cases hkl : k < len
          · have hc1 : decide ((k : Int) < len) = true := by simp; exact hkl
            have hc2 : decide ((k : Int) < 200) = false := by simp; omega
            have hc3 : (k : Int) < len := by omega
            have hc4 : ¬ (k : Int) < 200 := by omega
            clear hlt
            go_wp2_with fail
            refine (awake_any _).mono ?_
            rintro e wz ⟨rfl, hB⟩
            go_wp2
            go_ret
            exact ⟨rfl, below_chain HBL.out hB HBL.out.size⟩
          · have hc1 : decide ((k : Int) < len) = false := by simp; omega
            have hc3 : ¬ (k : Int) < len := by omega
            clear hlt
            go_wp2_with fail
            refine (awake_any _).mono ?_
            rintro e wz ⟨rfl, hB⟩
            go_wp2
            go_ret
            exact ⟨rfl, below_chain HBL.out hB HBL.out.size⟩
end Go.Proofs.Ytiddojegcbpafaa.T
