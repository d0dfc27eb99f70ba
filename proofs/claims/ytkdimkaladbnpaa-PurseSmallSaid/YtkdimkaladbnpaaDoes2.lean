/- The law's 'does': the reserving one, and all. -/
import Derived.Test.YtkdimkaladbnpaaDoes
namespace Go.Proofs.Ytkdimkaladbnpaa
open Go.ChangeShapes Go.WideShapes Go.ChangeAt Go.RowKit Go.Burg
open Go.Burg.Purse


set_option maxHeartbeats 2000000 in
theorem does_res {w : World} {b m : Nat} {s : St} {r : RSt} {v : Value} (hP : PurseAt w b m s) (hi : Inv s) (hl : s.last < 900) (hg : Goes s r) (hT : TkAt w v r.T) (what t k y : Int) (hk : 0 ≤ k) (hy : 0 ≤ y) (n2 : what % 6 ≠ 2) (n3 : what % 6 ≠ 3) (n4 : what % 6 ≠ 4) (n5 : what % 6 ≠ 5) :
    Calls Try.prog 15 #[.pointer (some ⟨b, 0, none⟩), .agg #[.int .u64 r.xk, .int .u64 r.xb, .int .u64 r.hk, .int .u64 r.hb, v], .agg #[.int .i64 what, .int .i64 t, .int .u64 k, .int .u64 y]] w fun e w' => ∃ v', e = .returned (.tuple #[.agg #[.int .u64 (r.res k y).1.xk, .int .u64 (r.res k y).1.xb, .int .u64 (r.res k y).1.hk, .int .u64 (r.res k y).1.hb, v'], .bool true]) ∧ PurseAt w' b m (s.res k y).2.2 ∧ TkAt w' v' (r.res k y).1.T ∧ Mod (Own b m) w w' := by
  obtain ⟨a, cap, rfl, _⟩ := hT.form
  have hA := ((hP.alloc (.cells #[.int .u64 r.xk, .int .u64 r.xb, .int .u64 r.hk, .int .u64 r.hb, (.slice a r.T.length cap)] 39)).alloc (.cells #[.int .i64 what, .int .i64 t, .int .u64 k, .int .u64 y] 33)).alloc (.cells #[.int .u64 0, .int .u64 0, .int .u64 0, .int .u64 0, .slice none 0 0] 39)
  have hT3 := ((hT.alloc (.cells #[.int .u64 r.xk, .int .u64 r.xb, .int .u64 r.hk, .int .u64 r.hb, (.slice a r.T.length cap)] 39)).alloc (.cells #[.int .i64 what, .int .i64 t, .int .u64 k, .int .u64 y] 33)).alloc (.cells #[.int .u64 0, .int .u64 0, .int .u64 0, .int .u64 0, .slice none 0 0] 39)
  have h1 : (((w.alloc (.cells #[.int .u64 r.xk, .int .u64 r.xb, .int .u64 r.hk, .int .u64 r.hb, (.slice a r.T.length cap)] 39)).alloc (.cells #[.int .i64 what, .int .i64 t, .int .u64 k, .int .u64 y] 33)).alloc (.cells #[.int .u64 0, .int .u64 0, .int .u64 0, .int .u64 0, .slice none 0 0] 39)).heap[w.heap.size + 1]? = some (.cells #[.int .i64 what, .int .i64 t, .int .u64 k, .int .u64 y] 33) := blk_alloc (heap_at (.cells #[.int .i64 what, .int .i64 t, .int .u64 k, .int .u64 y] 33) (by simp))
  have h2 : (((w.alloc (.cells #[.int .u64 r.xk, .int .u64 r.xb, .int .u64 r.hk, .int .u64 r.hb, (.slice a r.T.length cap)] 39)).alloc (.cells #[.int .i64 what, .int .i64 t, .int .u64 k, .int .u64 y] 33)).alloc (.cells #[.int .u64 0, .int .u64 0, .int .u64 0, .int .u64 0, .slice none 0 0] 39)).heap[w.heap.size + 2]? = some (.cells #[.int .u64 0, .int .u64 0, .int .u64 0, .int .u64 0, .slice none 0 0] 39) := heap_at (.cells #[.int .u64 0, .int .u64 0, .int .u64 0, .int .u64 0, .slice none 0 0] 39) (by simp)
  have hM : Mod (Own b m) w (((w.alloc (.cells #[.int .u64 r.xk, .int .u64 r.xb, .int .u64 r.hk, .int .u64 r.hb, (.slice a r.T.length cap)] 39)).alloc (.cells #[.int .i64 what, .int .i64 t, .int .u64 k, .int .u64 y] 33)).alloc (.cells #[.int .u64 0, .int .u64 0, .int .u64 0, .int .u64 0, .slice none 0 0] 39)) := (((Mod.refl _ _).alloc _).alloc _).alloc _
  obtain ⟨g1, g2, g3⟩ := hg.res hi hk hy
  obtain ⟨r', n, e', hre⟩ : ∃ r' n e', r.res k y = (r', n, e') := ⟨_, _, _, rfl⟩
  obtain ⟨s', hse⟩ : ∃ s', s.res k y = (n, e', s') := ⟨(s.res k y).2.2, by rw [hre] at g2 g3; exact Prod.ext g2 (Prod.ext g3 rfl)⟩
  have HR := hid (rres_at hT3 (hg.inv hi) (by have := hg.last; omega) hre)
  have HQ := hid (fun (w1 : World) (h : PurseAt w1 b m s) => reserve_at h hi (by omega) k y hk hy)
  rw [hse] at HQ
  rw [hre, hse]
  obtain ⟨p, hp⟩ : ∃ p, what % 6 = p := ⟨_, rfl⟩
  have HI := hid (pick_any what 6 p (((w.alloc (.cells #[.int .u64 r.xk, .int .u64 r.xb, .int .u64 r.hk, .int .u64 r.hb, (.slice a r.T.length cap)] 39)).alloc (.cells #[.int .i64 what, .int .i64 t, .int .u64 k, .int .u64 y] 33)).alloc (.cells #[.int .u64 0, .int .u64 0, .int .u64 0, .int .u64 0, .slice none 0 0] 39)) (by omega) (by omega) hp)
  have HA := hid hA
  have H1 := hid h1
  have H2 := hid h2
  have HM := hid hM
  have hlb := hP.lt.1
  have hlm := hP.lt.2
  have b2 : (p == 2) = false := by simp; omega
  have b3 : (p == 3) = false := by simp; omega
  have b4 : (p == 4) = false := by simp; omega
  have b5 : (p == 5) = false := by simp; omega
  clear n2 n3 n4 n5 g1 g2 g3 hre hse hP hi hl hg hT hA hT3 h1 h2 hM hp hk hy
  go_enter Try.func15, Try.ntmps15
  go_wp2_with (go_at_call 24; refine HI.out.mono ?_; rintro e w' ⟨rfl, rfl⟩)
  refine HR.out.mono ?_
  rintro e w2 ⟨v1, rfl, hv1, hB⟩
  obtain ⟨a6, c6, rfl, _⟩ := hv1.form
  have hz := hB.size
  simp only [World.size_alloc] at hz
  have k1 := blk_below H1.out hB (lt_of_block H1.out)
  have d0 := cell_of k1 0
  have d1 := cell_of k1 1
  have d2 := cell_of k1 2
  have d3 := cell_of k1 3
  have HS : Hid (DS w b m w2.heap.size what t k y s r' (.slice a6 r'.T.length c6) #[.int .u64 0, .int .u64 0, .int .u64 0, .int .u64 0, .slice none 0 0] (w2.alloc (.cells #[.int .u64 r'.xk, .int .u64 r'.xb, .int .u64 r'.hk, .int .u64 r'.hb, (.slice a6 r'.T.length c6)] 39))) :=
    hid ⟨(HA.out.keep hB).alloc _, blk_alloc k1, heap_new _ _, blk_alloc (blk_below H2.out hB (lt_of_block H2.out)), hv1.alloc _, (HM.out.trans (S' := fun _ => False) (Mod.ofBelow hB) (fun _ _ h => h.elim)).alloc _, hlb, hlm, by omega⟩
  have hz1 : w.heap.size + 1 < w2.heap.size := by omega
  clear hv1 hB k1 HA H1 H2 HM
  go_wp2_with fail
  refine (HQ.out _ HS.out.pu).mono ?_
  rintro e w3 ⟨rfl, hP2, hM2⟩
  have hI := HS.out.turn hP2 hM2
  clear hP2 hM2 d0 d1 d2 d3
  have hr := hI.rbox
  have m0 := cell_of hr 0
  have m1 := cell_of hr 1
  have m2 := cell_of hr 2
  have m3 := cell_of hr 3
  have m4 := cell_of hr 4
  have mf := free_of hr
  have hlt := lt_of_block hr
  have hn := hI.nbox
  have n0 := cell_of hn 0
  have n1 := cell_of hn 1
  have n2 := cell_of hn 2
  have n3 := cell_of hn 3
  have n4 := cell_of hn 4
  have H0 := hid hI
  clear hI hr hn
  go_wp2_with fail
  refine bodyPost_ret (v := .tuple #[.agg #[.int .u64 r'.xk, .int .u64 r'.xb, .int .u64 r'.hk, .int .u64 r'.hb, (.slice a6 r'.T.length c6)], .bool true]) (by simp [results, Try.results15, go_sem, m0, m1, m2, m3, m4]) rfl ⟨_, rfl, ?_⟩
  have HE := ((((H0.out.set 0 (.int .u64 r'.xk)).set 1 (.int .u64 r'.xb)).set 2 (.int .u64 r'.hk)).set 3 (.int .u64 r'.hb)).set 4 (.slice a6 r'.T.length c6)
  exact ⟨HE.pu, HE.tk, HE.mod⟩

theorem does_at {w : World} {b m : Nat} {s : St} {r : RSt} {v : Value} (hP : PurseAt w b m s) (hi : Inv s) (hl : s.last < 900) (hg : Goes s r) (hT : TkAt w v r.T) (what t k y : Int) (hk : 0 ≤ k) (hy : 0 ≤ y) :
    Calls Try.prog 15 #[.pointer (some ⟨b, 0, none⟩), .agg #[.int .u64 r.xk, .int .u64 r.xb, .int .u64 r.hk, .int .u64 r.hb, v], .agg #[.int .i64 what, .int .i64 t, .int .u64 k, .int .u64 y]] w fun e w' => ∃ v', e = .returned (.tuple #[.agg #[.int .u64 (r.act (what % 6) t k y).xk, .int .u64 (r.act (what % 6) t k y).xb, .int .u64 (r.act (what % 6) t k y).hk, .int .u64 (r.act (what % 6) t k y).hb, v'], .bool true]) ∧
      PurseAt w' b m (s.act (what % 6) t k y).2.2 ∧ TkAt w' v' (r.act (what % 6) t k y).T ∧ Mod (Own b m) w w' := by
  by_cases c2 : what % 6 = 2
  · rw [show r.act (what % 6) t k y = (r.com t).1 by simp [RSt.act, c2], show s.act (what % 6) t k y = (0, s.com t) by simp [St.act, c2]]
    exact does_com hP hi hl hg hT what t k y c2
  by_cases c3 : what % 6 = 3
  · rw [show r.act (what % 6) t k y = (r.ref t).1 by simp [RSt.act, c3], show s.act (what % 6) t k y = (0, s.ref t) by simp [St.act, c3]]
    exact does_ref hP hi hl hg hT what t k y c3
  by_cases c4 : what % 6 = 4
  · rw [show r.act (what % 6) t k y = (r.take k y).1 by simp [RSt.act, c4], show s.act (what % 6) t k y = (0, s.take k y) by simp [St.act, c4]]
    exact does_take hP hi hl hg hT what t k y c4 hk hy
  by_cases c5 : what % 6 = 5
  · rw [show r.act (what % 6) t k y = (r.pay k y).1 by simp [RSt.act, c5], show s.act (what % 6) t k y = (0, s.pay k y) by simp [St.act, c5]]
    exact does_pay hP hi hg hT what t k y c5 hk hy
  rw [show r.act (what % 6) t k y = (r.res k y).1 by simp [RSt.act, c2, c3, c4, c5], show s.act (what % 6) t k y = s.res k y by simp [St.act, c2, c3, c4, c5]]
  exact does_res hP hi hl hg hT what t k y hk hy c2 c3 c4 c5
end Go.Proofs.Ytkdimkaladbnpaa
