/- PurseBound: the walk. -/
import Derived.Test.YtkdimkaladbnpaaPurseOnce
namespace Go.Proofs.Ytkdimkaladbnpaa
open Go.ChangeShapes Go.WideShapes Go.ChangeAt Go.RowKit Go.Burg
open Go.Burg.Purse (St Inv wrap_in big)

theorem act_facts (s : St) (p t k y : Int) : (s.act p t k y).2.2.xk = s.xk ∧ (s.act p t k y).2.2.xb = s.xb ∧ ((s.act p t k y).2.1 ≠ 0 → (s.act p t k y).1 = 0 ∧ (s.act p t k y).2.2 = s) ∧
    ((s.act p t k y).1 = 0 ∧ (s.act p t k y).2.2.last = s.last ∨ (s.act p t k y).1 = s.last + 1 ∧ (s.act p t k y).2.2.last = s.last + 1) := by
  have c1 : (s.com t).2.xk = s.xk ∧ (s.com t).2.xb = s.xb ∧ ((s.com t).1 ≠ 0 → (s.com t).2 = s) ∧ (s.com t).2.last = s.last := by unfold St.com; split <;> simp
  have c2 : (s.ref t).2.xk = s.xk ∧ (s.ref t).2.xb = s.xb ∧ ((s.ref t).1 ≠ 0 → (s.ref t).2 = s) ∧ (s.ref t).2.last = s.last := by unfold St.ref; split <;> simp
  have c3 : (s.take k y).2.xk = s.xk ∧ (s.take k y).2.xb = s.xb ∧ ((s.take k y).1 ≠ 0 → (s.take k y).2 = s) ∧ (s.take k y).2.last = s.last := by unfold St.take; split <;> simp
  have c4 : (s.pay k y).2.xk = s.xk ∧ (s.pay k y).2.xb = s.xb ∧ ((s.pay k y).1 ≠ 0 → (s.pay k y).2 = s) ∧ (s.pay k y).2.last = s.last := by unfold St.pay; split <;> simp
  have c5 : (s.res k y).2.2.xk = s.xk ∧ (s.res k y).2.2.xb = s.xb ∧ ((s.res k y).2.1 ≠ 0 → (s.res k y).1 = 0 ∧ (s.res k y).2.2 = s) ∧
      ((s.res k y).1 = 0 ∧ (s.res k y).2.2.last = s.last ∨ (s.res k y).1 = s.last + 1 ∧ (s.res k y).2.2.last = s.last + 1) := by unfold St.res; split <;> simp
  unfold St.act
  split
  · exact ⟨c1.1, c1.2.1, fun h => ⟨rfl, c1.2.2.1 h⟩, .inl ⟨rfl, c1.2.2.2⟩⟩
  · split
    · exact ⟨c2.1, c2.2.1, fun h => ⟨rfl, c2.2.2.1 h⟩, .inl ⟨rfl, c2.2.2.2⟩⟩
    · split
      · exact ⟨c3.1, c3.2.1, fun h => ⟨rfl, c3.2.2.1 h⟩, .inl ⟨rfl, c3.2.2.2⟩⟩
      · split
        · exact ⟨c4.1, c4.2.1, fun h => ⟨rfl, c4.2.2.1 h⟩, .inl ⟨rfl, c4.2.2.2⟩⟩
        · exact c5

theorem left_of {w : World} {b m : Nat} {s : St} {lk lb : Int} (h : PurseAt w b m s) (hi : Inv s) (h1 : s.xk = lk) (h2 : s.xb = lb) :
    Calls Try.prog 20 #[.pointer (some ⟨b, 0, none⟩)] w fun e w' => e = .returned (.agg #[.int .u64 (lk - (s.hk + s.kk)), .int .u64 (lb - (s.hb + s.kb))]) ∧ Below w.heap.size w w' := by
  subst h1 h2
  exact left_at h hi

theorem act_of {w : World} {b m : Nat} {s s' : St} (h : PurseAt w b m s) (hi : Inv s) (hl : s.last < 4000000000) {what t k y n e' : Int} (hk : 0 ≤ k) (hy : 0 ≤ y) (ha : s.act (what % 6) t k y = (n, e', s')) :
    Calls Try.prog 11 #[.pointer (some ⟨b, 0, none⟩), .agg #[.int .i64 what, .int .i64 t, .int .u64 k, .int .u64 y]] w fun e w' => e = .returned (.tuple #[.int .i64 n, .int .i64 e']) ∧ PurseAt w' b m s' ∧ Mod (Own b m) w w' := by
  have := act_at h hi hl what t k y hk hy
  rwa [ha] at this

theorem nodup_le : ∀ (n : Nat) (l : List Int), l.Nodup → (∀ x ∈ l, 1 ≤ x ∧ x ≤ n) → l.length ≤ n := by
  intro n
  induction n with
  | zero =>
    intro l _ h
    cases l with
    | nil => simp
    | cons x l => have := h x (by simp); omega
  | succ n ih =>
    intro l hn h
    have h1 := ih (l.filter (fun x => decide (x ≠ ((n + 1 : Nat) : Int)))) (List.Nodup.sublist List.filter_sublist hn) (fun x hx => by
      have h2 := List.mem_filter.1 hx
      have h3 := h x h2.1
      have h4 : x ≠ ((n + 1 : Nat) : Int) := by simpa using h2.2
      omega)
    have h5 : l.length ≤ (l.filter (fun x => decide (x ≠ ((n + 1 : Nat) : Int)))).length + 1 := by
      clear ih h h1
      induction l with
      | nil => simp
      | cons x l ihl =>
        simp only [List.nodup_cons] at hn
        by_cases hx : x = ((n + 1 : Nat) : Int)
        · have : l.filter (fun x => decide (x ≠ ((n + 1 : Nat) : Int))) = l := List.filter_eq_self.2 fun y hy => by
            simp only [ne_eq, decide_not, Bool.not_eq_true', decide_eq_false_iff_not]
            exact fun e => hn.1 (by rw [hx, ← e]; exact hy)
          simp only [List.filter_cons, hx, ne_eq, not_true_eq_false, decide_false, Bool.false_eq_true, if_false]
          simp only [ne_eq] at this
          rw [this]
          simp
        · have := ihl hn.2
          simp only [List.filter_cons, ne_eq, hx, not_false_eq_true, decide_true, if_true, List.length_cons]
          simp only [ne_eq] at this
          omega
    omega

theorem open_le {s : St} (hi : Inv s) : (s.l.length : Int) ≤ s.last := by
  have h0 := hi.last
  have h := nodup_le s.last.toNat (s.l.map Prod.fst) hi.nod (fun x hx => by
    obtain ⟨y, hy, rfl⟩ := List.mem_map.1 hx
    have := hi.ent y hy
    omega)
  simp at h
  omega

/-- What stands at the head of a round. -/
def RelB (w : World) (b m : Nat) (lk lb : Int) (k : Nat) (s : St) (wr : World) : Prop :=
  PurseAt wr b m s ∧ Inv s ∧ s.last ≤ k ∧ s.xk = lk ∧ s.xb = lb ∧ wr.heap[w.heap.size]? = some (.cells #[.int .u64 lk, .int .u64 lb] 24) ∧ Mod (fun i => w.heap.size ≤ i) w wr


set_option maxRecDepth 100000 in
set_option maxHeartbeats 4000000 in
theorem bnd_any (lk lb : Int) (a : Option Addr) (len cap : Nat) (ds : Nat → Int × Int × Int × Int) (w : World) (hD : DeedsAt w a len ds) (h1 : 0 ≤ lk) (h2 : lk ≤ big) (h3 : 0 ≤ lb) (h4 : lb ≤ big) :
    Calls Try.prog 5 #[.agg #[.int .u64 lk, .int .u64 lb], .slice a len cap] w fun e w' => e = .returned (.bool true) ∧ Below w.heap.size w w' := by
  have HI := hid (Purse.Inv.new h1 h2 h3 h4)
  clear h1 h2 h3 h4
  go_enter Try.func5, Try.ntmps5
  go_wp2_with fail
  refine (awake_any _).mono ?_
  rintro e w1 ⟨rfl, hB⟩
  have hM1 : Mod (fun i => w.heap.size ≤ i) w w1 := mod_bel ((Mod.refl _ _).alloc _) hB
  have hN := blk_below (heap_new w (.cells #[.int .u64 lk, .int .u64 lb] 24)) hB (by simp)
  have n0 := cell_of hN 0
  have n1 := cell_of hN 1
  clear hB
  go_wp2_with fail
  refine (new_at lk lb _).mono ?_
  rintro e w2 ⟨b, m, rfl, hP, hb1, hm1, hX⟩
  have hM2 := mod_bel hM1 hX
  have hN2 := blk_below hN hX (lt_of_block hN)
  have hb : w.heap.size < b := by have := lt_of_block hN; omega
  have hm : w.heap.size < m := by have := lt_of_block hN; omega
  clear hX hM1 n0 n1 hN hb1 hm1
  have HR : Hid (RelB w b m lk lb 0 (St.new lk lb) w2) := hid ⟨hP, HI.out, Int.le_refl _, rfl, rfl, hN2, hM2⟩
  clear hP hM2 hN2 HI
  go_wp2_with fail
  go_loopw [6, 7] (fun lv iv wr => ∃ (k : Nat) (s : St), k ≤ len ∧ k ≤ 100 ∧ iv = .int .i64 k ∧ lv = .int .i64 s.last ∧ RelB w b m lk lb k s wr) (fun _ iv _ => 100 - (intOf iv).toNat)
  case atStart => exact ⟨0, _, Nat.zero_le _, by omega, rfl, rfl, HR.out⟩
  case round =>
    clear HR
    obtain ⟨k, s, hk, hk2, rfl, rfl, hP, hi, hl, hxk, hxb, hN, hM⟩ := hrel
    have HI := hid hi
    have HXK := hid hxk
    have HXB := hid hxb
    have HN := hid hN
    clear hxk hxb hN
    by_cases hlt : k < len ∧ k < 100
    · obtain ⟨hlt, hlt2⟩ := hlt
      obtain ⟨bl, off, ha, hbl, hall⟩ := hD (by omega)
      subst ha
      obtain ⟨⟨d0, d1, d2, d3⟩, hk0, hy0⟩ := hall k hlt
      generalize ds k = d at d0 d1 d2 d3 hk0 hy0
      obtain ⟨what, t, kk, yy⟩ := d
      simp only at d0 d1 d2 d3 hk0 hy0
      clear hall
      obtain ⟨n, e', s', hact⟩ : ∃ n e' s', s.act (what % 6) t kk yy = (n, e', s') := ⟨_, _, _, rfl⟩
      obtain ⟨f1, f2, f3, f4⟩ := act_facts s (what % 6) t kk yy
      have i' := hi.act hk0 hy0 (what % 6) t
      rw [hact] at f1 f2 f3 f4 i'
      simp only at f1 f2 f3 f4 i'
      have HA := hid (fun (w' : World) (h : PurseAt w' b m s) => act_of h hi (by omega) hk0 hy0 hact)
      have HM := hid hM
      have HP := hid hP
      have HL := hid hl
      have HF1 := hid (f1.trans HXK.out)
      have HF2 := hid (f2.trans HXB.out)
      have hkk := i'.kk
      have hkb := i'.kb
      have hhk := i'.hk
      have hhb := i'.hb
      have hfk : s'.hk + s'.kk ≤ lk := by have := i'.fk; rw [HF1.out] at this; exact this
      have hfb : s'.hb + s'.kb ≤ lb := by have := i'.fb; rw [HF2.out] at this; exact this
      have hlk : lk ≤ big := by have := i'.xk; rw [HF1.out] at this; exact this
      have hlb : lb ≤ big := by have := i'.xb; rw [HF2.out] at this; exact this
      have w1k : IntKind.u64.wrap (lk - (s'.hk + s'.kk)) = lk - (s'.hk + s'.kk) := wrap_in (by omega) (by omega)
      have w1b : IntKind.u64.wrap (lb - (s'.hb + s'.kb)) = lb - (s'.hb + s'.kb) := wrap_in (by omega) (by omega)
      have HW1 := hid w1k
      have HW2 := hid w1b
      have hll : s.last ≤ 100 := by omega
      have hll0 := hi.last
      clear hact hk0 hy0 hM hP f1 f2 w1k w1b hl hlk hlb hi
      go_wp2_with fail
      refine (has_at HP.out).mono ?_
      rintro e wA ⟨rfl, hX⟩
      have hMA := mod_bel HM.out hX
      have hPA := HP.out.keep hX
      have hNA := blk_below HN.out hX (lt_of_block HN.out)
      clear hX HM HP HN
      go_wp2_with fail
      refine (bound_at hPA HI.out).mono ?_
      rintro e wB ⟨rfl, hX⟩
      have hMB := mod_bel hMA hX
      have hPB := hPA.keep hX
      have hNB := blk_below hNA hX (lt_of_block hNA)
      clear hX hMA hPA hNA
      go_wp2_with fail
      refine (open_at hPB).mono ?_
      rintro e wB' ⟨rfl, rfl⟩
      have hwl : w.heap.size < wB.heap.size := lt_of_block hNB
      have hcell : ∀ j, wB.cell? ⟨bl, j, none⟩ = w.cell? ⟨bl, j, none⟩ := fun j => World.cell?_of_block (w := w) (hMB.block bl hbl (by omega))
      have g0 := (hcell _).trans d0
      have g1 := (hcell _).trans d1
      have g2 := (hcell _).trans d2
      have g3 := (hcell _).trans d3
      have hblB : bl < wB.heap.size := by omega
      clear hcell d0 d1 d2 d3
      go_wp2_with fail
      refine (HA.out _ ((hPB.alloc _).alloc _)).mono ?_
      rintro e wD ⟨rfl, hPD, hXD⟩
      obtain ⟨hbB, hmB⟩ := hPB.lt
      have h8 : wD.heap[wB.heap.size]? = some (.cells #[.int .u64 s.hk, .int .u64 s.hb] 24) := (hXD.block _ (by simp; omega) (by rintro (h | h) <;> omega)).trans (blk_alloc (heap_new _ _))
      have h9 : wD.heap[wB.heap.size + 1]? = some (.cells #[.int .u64 (s.hk + s.kk), .int .u64 (s.hb + s.kb)] 24) := (hXD.block _ (by simp) (by rintro (h | h) <;> omega)).trans (by simpa using heap_new (wB.alloc (.cells #[.int .u64 s.hk, .int .u64 s.hb] 24)) (.cells #[.int .u64 (s.hk + s.kk), .int .u64 (s.hb + s.kb)] 24))
      have hNX : wD.heap[w.heap.size]? = some (.cells #[.int .u64 lk, .int .u64 lb] 24) := (hXD.block _ (by simp; omega) (by rintro (h | h) <;> omega)).trans (blk_alloc (blk_alloc hNB))
      have hMD : Mod (fun i => w.heap.size ≤ i) w wD := ((hMB.alloc _).alloc _).trans hXD (fun i _ h => by rcases h with rfl | rfl <;> omega)
      have hzD : wB.heap.size + 1 < wD.heap.size := lt_of_block h9
      have HPD := hid hPD
      have HMD := hid hMD
      have HNX := hid hNX
      have H8 := hid h8
      have H9 := hid h9
      clear g0 g1 g2 g3 hPB hMB hNB hXD hPD hMD hNX h8 h9 HA
      by_cases he : e' = 0
      · subst he
        clear f3
        rcases f4 with ⟨rfl, f4⟩ | ⟨rfl, f4⟩
        · have HF4 := hid f4
          clear f4
          go_wp2_with fail
          refine wp_region_seq 24 (fun w1 => Below (wD).heap.size (wD) w1) (by kernel_rfl) (by kernel_rfl) (by kernel_rfl) ⟨rfl, rfl, rfl, Nat.le_refl _, fun _ _ => rfl⟩ ?_
          dsimp only [List.take]
          iterate 24
            refine Seq.cons (a' := ?_) ?_ ?_ ?_
            rotate_left
            ·
              intro w1 hw1
              skip
              go_wp2_with (fail)
              refine ⟨?_, by first | assumption | (simpa using below_chain hw1 hb hw1.size)⟩
              exact rfl
            · kernel_rfl
          refine SeqI.nil ?_
          intro _ w1 _ hw1
          dsimp only [List.drop]
          have hPD := HPD.out.keep hw1
          have hNX := blk_below HNX.out hw1 (by omega)
          have hMD := mod_bel HMD.out hw1
          clear HPD HNX HMD H8 H9
          go_wp2_with fail
          refine (has_at hPD).mono ?_
          rintro e wE ⟨rfl, hX⟩
          have hME := mod_bel hMD hX
          have hPE := hPD.keep hX
          have hNE := blk_below hNX hX (lt_of_block hNX)
          clear hX hMD hPD hNX
          go_wp2_with fail
          refine (bound_at hPE i').mono ?_
          rintro e wF ⟨rfl, hX⟩
          have hMF := mod_bel hME hX
          have hPF := hPE.keep hX
          have hNF := blk_below hNE hX (lt_of_block hNE)
          clear hX hME hPE hNE
          go_wp2_with fail
          refine (left_of hPF i' HF1.out HF2.out).mono ?_
          rintro e wG ⟨rfl, hX⟩
          have hMG := mod_bel hMF hX
          have hPG := hPF.keep hX
          have hNG := blk_below hNF hX (lt_of_block hNF)
          have l0 : ∀ o1 o2 o3 : Obj, (((wG.alloc o1).alloc o2).alloc o3).cell? ⟨w.heap.size, 0, none⟩ = some (.int .u64 lk) := fun _ _ _ => cell_of (blk_alloc (blk_alloc (blk_alloc hNG))) 0
          have l1 : ∀ o1 o2 o3 : Obj, (((wG.alloc o1).alloc o2).alloc o3).cell? ⟨w.heap.size, 1, none⟩ = some (.int .u64 lb) := fun _ _ _ => cell_of (blk_alloc (blk_alloc (blk_alloc hNG))) 1
          have hGl : w.heap.size < wG.heap.size := lt_of_block hNG
          have u1 := HW1.out
          have u2 := HW2.out
          have HMG := hid hMG
          have HPG := hid hPG
          have HNG := hid hNG
          clear hX hMF hPF hNF hMG hPG hNG
          go_wp2_with fail
          have hL := HL.out
          go_roundw
          case rel => exact ⟨k + 1, s', by omega, by omega, by go_num, congrArg (Value.int .i64) HF4.out.symm, ((HPG.out.alloc _).alloc _).alloc _, i', (by have := HF4.out; omega), HF1.out, HF2.out, blk_alloc (blk_alloc (blk_alloc HNG.out)), ((HMG.out.alloc _).alloc _).alloc _⟩
          case measure => simp [intOf]; omega
        · have HF4 := hid f4
          have hnz : ((s.last + 1) != 0) = true := by simp; omega
          clear f4
          go_wp2_with fail
          refine wp_region_seq 24 (fun w1 => Below (wD).heap.size (wD) w1) (by kernel_rfl) (by kernel_rfl) (by kernel_rfl) ⟨rfl, rfl, rfl, Nat.le_refl _, fun _ _ => rfl⟩ ?_
          dsimp only [List.take]
          iterate 24
            refine Seq.cons (a' := ?_) ?_ ?_ ?_
            rotate_left
            ·
              intro w1 hw1
              skip
              go_wp2_with (fail)
              refine ⟨?_, by first | assumption | (simpa using below_chain hw1 hb hw1.size)⟩
              exact rfl
            · kernel_rfl
          refine SeqI.nil ?_
          intro _ w1 _ hw1
          dsimp only [List.drop]
          have hPD := HPD.out.keep hw1
          have hNX := blk_below HNX.out hw1 (by omega)
          have hMD := mod_bel HMD.out hw1
          clear HPD HNX HMD H8 H9
          go_wp2_with fail
          refine (has_at hPD).mono ?_
          rintro e wE ⟨rfl, hX⟩
          have hME := mod_bel hMD hX
          have hPE := hPD.keep hX
          have hNE := blk_below hNX hX (lt_of_block hNX)
          clear hX hMD hPD hNX
          go_wp2_with fail
          refine (bound_at hPE i').mono ?_
          rintro e wF ⟨rfl, hX⟩
          have hMF := mod_bel hME hX
          have hPF := hPE.keep hX
          have hNF := blk_below hNE hX (lt_of_block hNE)
          clear hX hME hPE hNE
          go_wp2_with fail
          refine (left_of hPF i' HF1.out HF2.out).mono ?_
          rintro e wG ⟨rfl, hX⟩
          have hMG := mod_bel hMF hX
          have hPG := hPF.keep hX
          have hNG := blk_below hNF hX (lt_of_block hNF)
          have l0 : ∀ o1 o2 o3 : Obj, (((wG.alloc o1).alloc o2).alloc o3).cell? ⟨w.heap.size, 0, none⟩ = some (.int .u64 lk) := fun _ _ _ => cell_of (blk_alloc (blk_alloc (blk_alloc hNG))) 0
          have l1 : ∀ o1 o2 o3 : Obj, (((wG.alloc o1).alloc o2).alloc o3).cell? ⟨w.heap.size, 1, none⟩ = some (.int .u64 lb) := fun _ _ _ => cell_of (blk_alloc (blk_alloc (blk_alloc hNG))) 1
          have hGl : w.heap.size < wG.heap.size := lt_of_block hNG
          have u1 := HW1.out
          have u2 := HW2.out
          have HMG := hid hMG
          have HPG := hid hPG
          have HNG := hid hNG
          clear hX hMF hPF hNF hMG hPG hNG
          go_wp2_with fail
          have hL := HL.out
          go_roundw
          case rel => exact ⟨k + 1, s', by omega, by omega, by go_num, congrArg (Value.int .i64) HF4.out.symm, ((HPG.out.alloc _).alloc _).alloc _, i', (by have := HF4.out; omega), HF1.out, HF2.out, blk_alloc (blk_alloc (blk_alloc HNG.out)), ((HMG.out.alloc _).alloc _).alloc _⟩
          case measure => simp [intOf]; omega
      · obtain ⟨rfl, rfl⟩ := f3 he
        have he1 : (e' != 0) = true := by simpa using he
        clear f3 f4 he
        go_wp2_with fail
        refine wp_region_seq 24 (fun w1 => Below (wD).heap.size (wD) w1) (by kernel_rfl) (by kernel_rfl) (by kernel_rfl) ⟨rfl, rfl, rfl, Nat.le_refl _, fun _ _ => rfl⟩ ?_
        dsimp only [List.take]
        iterate 24
          refine Seq.cons (a' := ?_) ?_ ?_ ?_
          rotate_left
          ·
            intro w1 hw1
            have hPd := HPD.out.keep hw1
            have h8' := blk_below H8.out hw1 (by omega)
            have h9' := blk_below H9.out hw1 (by omega)
            have a0 := cell_of h8' 0
            have a1 := cell_of h8' 1
            have a2 := cell_of h9' 0
            have a3 := cell_of h9' 1
            clear h8' h9'
            go_wp2_with (first | (go_at_call 17; refine (has_at hPd).mono ?_; rintro e w' ⟨rfl, hb⟩) | (go_at_call 18; refine (bound_at hPd i').mono ?_; rintro e w' ⟨rfl, hb⟩) | (go_at_call 19; refine (open_at hPd).mono ?_; rintro e w' ⟨rfl, rfl⟩))
            refine ⟨?_, by first | assumption | (simpa using below_chain hw1 hb hw1.size)⟩
            exact rfl
          · kernel_rfl
        refine SeqI.nil ?_
        intro _ w1 _ hw1
        dsimp only [List.drop]
        have hPD := HPD.out.keep hw1
        have hNX := blk_below HNX.out hw1 (by omega)
        have hMD := mod_bel HMD.out hw1
        clear HPD HNX HMD H8 H9
        go_wp2_with fail
        refine (has_at hPD).mono ?_
        rintro e wE ⟨rfl, hX⟩
        have hME := mod_bel hMD hX
        have hPE := hPD.keep hX
        have hNE := blk_below hNX hX (lt_of_block hNX)
        clear hX hMD hPD hNX
        go_wp2_with fail
        refine (bound_at hPE i').mono ?_
        rintro e wF ⟨rfl, hX⟩
        have hMF := mod_bel hME hX
        have hPF := hPE.keep hX
        have hNF := blk_below hNE hX (lt_of_block hNE)
        clear hX hME hPE hNE
        go_wp2_with fail
        refine (left_of hPF i' HF1.out HF2.out).mono ?_
        rintro e wG ⟨rfl, hX⟩
        have hMG := mod_bel hMF hX
        have hPG := hPF.keep hX
        have hNG := blk_below hNF hX (lt_of_block hNF)
        have l0 : ∀ o1 o2 o3 : Obj, (((wG.alloc o1).alloc o2).alloc o3).cell? ⟨w.heap.size, 0, none⟩ = some (.int .u64 lk) := fun _ _ _ => cell_of (blk_alloc (blk_alloc (blk_alloc hNG))) 0
        have l1 : ∀ o1 o2 o3 : Obj, (((wG.alloc o1).alloc o2).alloc o3).cell? ⟨w.heap.size, 1, none⟩ = some (.int .u64 lb) := fun _ _ _ => cell_of (blk_alloc (blk_alloc (blk_alloc hNG))) 1
        have hGl : w.heap.size < wG.heap.size := lt_of_block hNG
        have u1 := HW1.out
        have u2 := HW2.out
        have HMG := hid hMG
        have HPG := hid hPG
        have HNG := hid hNG
        clear hX hMF hPF hNF hMG hPG hNG
        go_wp2_with fail
        have hL := HL.out
        go_roundw
        case rel => exact ⟨k + 1, s', by omega, by omega, by go_num, congrArg (Value.int .i64) rfl, ((HPG.out.alloc _).alloc _).alloc _, i', (by have := hL; omega), HF1.out, HF2.out, blk_alloc (blk_alloc (blk_alloc HNG.out)), ((HMG.out.alloc _).alloc _).alloc _⟩
        case measure => simp [intOf]; omega
    · have HP := hid hP
      have HM := hid hM
      have hll : s.last ≤ 100 := by omega
      have HL := hid hl
      clear hD hP hM hl
      have hfin := open_le HI.out
      by_cases hkl : k < len
      · have hk3 : 100 ≤ k := by have : ¬ k < 100 := fun h => hlt ⟨hkl, h⟩
                                 omega
        clear hlt
        go_wp2_with fail
        refine (open_at HP.out).mono ?_
        rintro e wB' ⟨rfl, rfl⟩
        go_wp2_with fail
        go_ret
        exact ⟨by simp, mod_end HM.out⟩
      · obtain rfl : k = len := by omega
        clear hlt
        go_wp2_with fail
        refine (open_at HP.out).mono ?_
        rintro e wB' ⟨rfl, rfl⟩
        go_wp2_with fail
        go_ret
        exact ⟨by simp, mod_end HM.out⟩
end Go.Proofs.Ytkdimkaladbnpaa
