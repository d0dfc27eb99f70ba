/- LockDoes: the walk. -/
import Derived.Test.YtofkodfdgbjboaaLD4
import Derived.Deep.LoopGhost
namespace Go.Proofs.Ytofkodfdgbjboaa
open Go.ChangeShapes Go.WideShapes Go.ChangeAt Go.RowKit Go.Burg
open Go.Burg.Lk

/-- The deeds' Refs. -/
def refsL (ds : Nat → LDeed) (i : Nat) : List RefK := (List.range i).map fun j => (ds j).ref
theorem refsL_len (ds : Nat → LDeed) (i : Nat) : (refsL ds i).length = i := by simp [refsL]
theorem refsL_succ (ds : Nat → LDeed) (i : Nat) : rks (refsL ds (i + 1)) = rks (refsL ds i) ++ [.int .i64 (ds i).ref.1.1, .int .u32 (ds i).ref.1.2] := by
  simp [refsL, rks, List.range_succ]

/-- What holds at a round's head. -/
structure Dj (w : World) (p : Nat) (fv : Value) (R : List RefK) (k b m : Nat) (rv wv : Value) (l : List (RefK × Wd)) (t : Int) (wr : World) : Prop where
  ask : Asked b m p rv wv fv l t R wr
  mod : Mod (fun i => w.heap.size ≤ i) w wr
  gb : w.heap.size ≤ b ∧ w.heap.size ≤ m ∧ w.heap.size ≤ p
  gr : ∀ g, rv.ownBlock = some g → w.heap.size ≤ g ∧ fv.ownBlock ≠ some g
  gw : ∀ g, wv.ownBlock = some g → w.heap.size ≤ g
  len : l.length ≤ k
  tk : 0 ≤ t ∧ t ≤ k

theorem Dj.keep {w w1 w2 : World} {p : Nat} {fv : Value} {R : List RefK} {k b m : Nat} {rv wv : Value} {l : List (RefK × Wd)} {t : Int} (h : Dj w p fv R k b m rv wv l t w1) (hB : Below w1.heap.size w1 w2) : Dj w p fv R k b m rv wv l t w2 :=
  ⟨h.ask.keep hB, mod_bel h.mod hB, h.gb, h.gr, h.gw, h.len, h.tk⟩

theorem fs_ne {b m p : Nat} {rv wv fv : Value} {l : List (RefK × Wd)} {t : Int} {R : List RefK} {w : World} (h : Asked b m p rv wv fv l t R w) : ∀ g, fv.ownBlock = some g → g ≠ b ∧ g ≠ m ∧ g ≠ p ∧ wv.ownBlock ≠ some g := by
  intro g hg
  refine ⟨own_ty h.fs h.lk.1 (by decide) g hg, fun e => ?_, own_ty h.fs h.rf.hd (by decide) g hg, fun e => ?_⟩
  · obtain ⟨es, c, hm, _⟩ := h.lk.2
    rcases h.fs.2 with ⟨e2, _⟩ | ⟨g', cap', cur, e2, _, hh, _⟩
    · rw [e2] at hg; cases hg
    · rw [e2] at hg
      simp [Value.ownBlock] at hg
      subst hg
      rw [e, hm] at hh
      cases hh
  · rcases h.rf.ws.2 with ⟨e2, _⟩ | ⟨g', cap', cur, e2, _, hh, _⟩
    · rw [e2] at e; cases e
    · rw [e2] at e
      simp [Value.ownBlock] at e
      subst e
      exact own_ty h.fs hh (by decide) g' hg rfl

/-- A deed makes the next round's head. -/
theorem Dj.next {w w1 w2 : World} {p : Nat} {fv : Value} {R : List RefK} {k b m : Nat} {rv wv : Value} {l : List (RefK × Wd)} {t : Int} {e : Ending} (h : Dj w p fv R k b m rv wv l t w1) (hL : Left w1 b m p rv wv l t e w2) :
    ∃ b' m' rv' wv' l' t', e = .returned (.tuple #[.pointer (some ⟨b', 0, none⟩), .bool true]) ∧ Dj w p fv R (k + 1) b' m' rv' wv' l' t' w2 := by
  obtain ⟨b', m', rv', wv', l', t', he, h1, h2, h3, h4, h5, h6, h7, h8, h9⟩ := hL.ex
  have hsz := h.mod.size
  obtain ⟨g1, g2, g3⟩ := h.gb
  have htk := h.tk
  have hln := h.len
  refine ⟨b', m', rv', wv', l', t', he, ⟨h1, h2, own_same h.ask.fs fun g hg => h3.block g (World.ownsRow.lt h.ask.fs g hg).2 (fun e => ?_)⟩, h.mod.trans h3 (fun i hi e => ?_), ?_, fun g hg => ?_, fun g hg => ?_, by omega, by omega⟩
  · obtain ⟨n1, n2, n3, n4⟩ := fs_ne h.ask g hg
    rcases e with (e | e) | e | e | e
    · exact n1 e
    · exact n2 e
    · exact n3 e
    · exact (h.gr g e).2 hg
    · exact n4 e
  · rcases e with (e | e) | e | e | e
    · omega
    · omega
    · omega
    · exact (h.gr i e).1
    · exact h.gw i e
  · rcases h4 with ⟨rfl, rfl⟩ | ⟨e1, e2⟩
    · exact ⟨g1, g2, g3⟩
    · exact ⟨by omega, by omega, g3⟩
  · rcases h5 g hg with e | e
    · exact h.gr g e
    · exact ⟨by omega, fun e2 => by have := (World.ownsRow.lt h.ask.fs g e2).2; omega⟩
  · rcases h6 g hg with e | e
    · exact h.gw g e
    · omega

theorem deed_cells {w wr : World} {a : Option Addr} {len k : Nat} {ds : Nat → LDeed} (hD : DeedsAt w a len ds) (hM : Mod (fun i => w.heap.size ≤ i) w wr) (hk : k < len) :
    ∃ bl off, a = some ⟨bl, off, none⟩ ∧ wr.cell? ⟨bl, off + k * 4, none⟩ = some (.int .i64 (ds k).what) ∧ wr.cell? ⟨bl, off + k * 4 + 1, none⟩ = some (.int .i64 (ds k).ref.1.1) ∧
    wr.cell? ⟨bl, off + k * 4 + 2, none⟩ = some (.int .u32 (ds k).ref.1.2) ∧ wr.cell? ⟨bl, off + k * 4 + 3, none⟩ = some (.int .u64 (ds k).w.1) := by
  obtain ⟨bl, off, ha, hbl, hall⟩ := hD (by omega)
  obtain ⟨d0, d1, d2, d3⟩ := hall k hk
  have hc : ∀ j, wr.cell? ⟨bl, j, none⟩ = w.cell? ⟨bl, j, none⟩ := fun j => World.cell?_of_block (w := w) (hM.block bl hbl (by omega))
  exact ⟨bl, off, ha, (hc _).trans d0, (hc _).trans d1, (hc _).trans d2, (hc _).trans d3⟩

set_option maxRecDepth 20000 in
set_option maxHeartbeats 4000000 in
theorem lockdoes_any (a : Option Addr) (len cap : Nat) (ds : Nat → LDeed) (w : World) (hD : DeedsAt w a len ds) :
    Calls Try.prog 5 #[.slice a len cap] w fun e w' => e = .returned (.bool true) ∧ Below w.heap.size w w' := by
  obtain ⟨it, hit, hzi, hszi, hbyi⟩ := info_parts (P := Try.prog) (e := 30) (z := .agg #[.int .i64 0, .int .u32 0]) (size := 2) (bytes := 16) (by kernel_rfl)
  have HIT := hid (And.intro hit (And.intro hzi (And.intro hszi hbyi)))
  clear hit hzi hszi hbyi
  go_enter Try.func5, Try.ntmps5
  by_cases hlen : 200 < len
  · have hl2 : decide ((200 : Int) < len) = true := by simp; omega
    go_wp2_with fail
    refine (awake_any _).mono ?_
    rintro e w1 ⟨rfl, hB⟩
    go_wp2_with fail
    go_ret
    exact ⟨rfl, hB⟩
  have hl2 : decide ((200 : Int) < len) = false := by simp; omega
  go_wp2_with fail
  refine (new_at _).mono ?_
  rintro e w1 ⟨b0, m0, rfl, hP, hb, hm, hB⟩
  have hsz := hB.size
  have hP1 := hP.alloc (.cells #[.slice none 0 0, .slice none 0 0, .int .i64 0] 49)
  have hp1 := heap_new w1 (.cells #[.slice none 0 0, .slice none 0 0, .int .i64 0] 49)
  have hR1 : RAt (w1.alloc (.cells #[.slice none 0 0, .slice none 0 0, .int .i64 0] 49)) w1.heap.size (.slice none 0 0) (.slice none 0 0) [] 0 := ⟨hp1, World.ownsRow_nil _ _ _ _, World.ownsRow_nil _ _ _ _⟩
  have hM1 : Mod (fun i => w.heap.size ≤ i) w (w1.alloc (.cells #[.slice none 0 0, .slice none 0 0, .int .i64 0] 49)) := (Mod.ofBelow (S := fun i => w.heap.size ≤ i) hB).alloc _
  clear hP hB hp1
  go_wp2_with fail
  have HP1 := hid hP1
  have HR1 := hid hR1
  have HM1 := hid hM1
  clear hP1 hR1 hM1
  generalize w1.alloc (.cells #[.slice none 0 0, .slice none 0 0, .int .i64 0] 49) = W at *
  generalize hpp : w1.heap.size = p at *
  clear hpp
  go_loopg [5, 6] 200 (fun g fv iv wr => ∃ i : Nat, g = 200 - i ∧ i ≤ len ∧ iv = .int .i64 i ∧ wr.ownsRow W.heap.size 30 2 fv i (rks (refsL ds i)) ∧ Below W.heap.size W wr)
  case atStart => exact ⟨0, rfl, Nat.zero_le _, rfl, World.ownsRow_nil _ _ _ _, Below.refl _ _⟩
  case round =>
    obtain ⟨i, rfl, hi, rfl, hO, hB⟩ := hrel
    have HB := hid hB
    by_cases hlt : i < len
    · have hcond : decide ((i : Int) < len) = true := by simp; exact hlt
      obtain ⟨bl, off, rfl, d0, d1, d2, d3⟩ := deed_cells hD (mod_bel HM1.out hB) hlt
      have hn := heap_new wr (.cells #[.int .i64 (ds i).ref.1.1, .int .u32 (ds i).ref.1.2] 30)
      have hO2 : (wr.alloc (.cells #[.int .i64 (ds i).ref.1.1, .int .u32 (ds i).ref.1.2] 30)).ownsRow W.heap.size 30 2 u5 i (rks (refsL ds i)) := World.ownsRow.alloc hO _
      have HN := hid (news2 _ _ _ _ _ hn)
      have HO := hid hO2
      clear hn hO2 hO hB
      have hgl : wr.heap.size ≤ (wr.alloc (.cells #[.int .i64 (ds i).ref.1.1, .int .u32 (ds i).ref.1.2] 30)).heap.size := by simp
      have HSZ := hid HB.out.size
      go_wp2_with (at_builtin; go_loud (refine wpList_append_own_at _ rfl (.tmp 23) (.tmp 29) 46 rfl W.heap.size 30 it _ 2 16 Try.underlying46 HIT.out.1 HIT.out.2.1 HIT.out.2.2.1 HIT.out.2.2.2 rfl (by decide) u5 i (rks (refsL ds i)) rfl HO.out ⟨wr.heap.size, 0, none⟩ 1 1 [.int .i64 (ds i).ref.1.1, .int .u32 (ds i).ref.1.2] rfl rfl HN.out (by simp [Value.oneCell']) (by simp [maxLen]; omega) (by omega) (Nat.le_trans HSZ.out hgl) ?_))
      intro v6 W6 hO6 hG6 _ _
      have hB6 : Below W.heap.size W W6 := (HB.out.alloc HSZ.out _).trans (below_row hG6 (fun k e => (World.ownsRow.lt HO.out k e).1) (Nat.le_trans HSZ.out hgl))
      have HO6 := hid hO6
      have HB6 := hid hB6
      clear hO6 hG6 hB6 HO HN hgl
      go_wp2_with fail
      go_roundg (200 - (i + 1))
      case measure => omega
      case rel => exact ⟨i + 1, rfl, by omega, by go_num, by rw [refsL_succ]; exact HO6.out, HB6.out⟩
    · obtain rfl : i = len := by omega
      have hcond : decide ((i : Int) < i) = false := by simp
      have hrl := refsL_len ds i
      generalize hRR : refsL ds i = R at *
      clear hRR
      have hfs : wr.ownsRow 0 30 2 u5 R.length (rks R) := by
        rw [hrl]
        refine ⟨hO.1, ?_⟩
        rcases hO.2 with h | ⟨a, b, c, h1, h2, h3⟩
        · exact .inl h
        · exact .inr ⟨a, b, c, h1, Nat.zero_le _, h3⟩
      have hJ : Dj w p u5 R 0 b0 m0 (.slice none 0 0) (.slice none 0 0) [] 0 wr :=
        ⟨⟨HP1.out.keep hB, HR1.out.keep hB, hfs⟩, mod_bel HM1.out hB, ⟨hb, hm, hsz⟩, fun g e => (by cases e), fun g e => (by cases e), Nat.le_refl _, Int.le_refl _, Int.le_refl _⟩
      have HJ := hid hJ
      have HL := hid hrl
      clear hJ hfs hO hB HB HP1 HR1 HM1 hrl
      go_wp2_with fail
      go_loopg [3, 7] 200 (fun g lv iv wx => ∃ (k b m : Nat) (rv wv : Value) (l : List (RefK × Wd)) (t : Int), g = 200 - k ∧ k ≤ i ∧ iv = .int .i64 k ∧ lv = .pointer (some ⟨b, 0, none⟩) ∧ Dj w p u5 R k b m rv wv l t wx)
      case atStart => exact ⟨0, b0, m0, _, _, [], 0, rfl, Nat.zero_le _, rfl, rfl, HJ.out⟩
      case round =>
        clear HJ
        obtain ⟨k, b, m, rv, wv, l, t, rfl, hk, rfl, rfl, hJ⟩ := hrel
        have HJ := hid hJ
        have hln := hJ.len
        have htk := hJ.tk
        by_cases hlt : k < i
        · have hcond2 : decide ((k : Int) < i) = true := by simp; exact hlt
          obtain ⟨bl, off, rfl, d0, d1, d2, d3⟩ := deed_cells hD hJ.mod hlt
          have HD := hid (does_any hJ.ask.lk hJ.ask.rf (ds k) (by omega) htk.1 (by omega))
          clear hJ
          generalize ds k = d at d0 d1 d2 d3 HD
          go_wp2_with fail
          refine HD.out.mono ?_
          intro e w2 hL
          obtain ⟨b', m', rv', wv', l', t', rfl, hJ2⟩ := HJ.out.next hL
          have hln2 := hJ2.len
          have HJ2 := hid hJ2
          clear hL hJ2 HD HJ d0 d1 d2 d3
          go_wp2_with fail
          refine (same_any HJ2.out.ask (by omega) (by rw [HL.out]; omega)).mono ?_
          rintro e w3 ⟨rfl, hb3⟩
          have HJ3 := hid (HJ2.out.keep hb3)
          clear hb3 HJ2
          go_wp2_with fail
          go_roundg (200 - (k + 1))
          case measure => omega
          case rel => exact ⟨k + 1, b', m', rv', wv', l', t', rfl, by omega, by go_num, rfl, HJ3.out⟩
        · obtain rfl : k = i := by omega
          have hcond2 : decide ((k : Int) < k) = false := by simp
          clear hJ
          go_wp2_with fail
          refine (same_any HJ.out.ask (by omega) (by rw [HL.out]; omega)).mono ?_
          rintro e w3 ⟨rfl, hb3⟩
          have HJ3 := hid (HJ.out.keep hb3)
          clear hb3 HJ
          go_wp2_with fail
          refine (awake_any _).mono ?_
          rintro e w4 ⟨rfl, hb4⟩
          have hM := mod_bel HJ3.out.mod hb4
          clear HJ3 hb4
          go_wp2_with fail
          go_ret
          exact ⟨rfl, mod_end hM⟩
end Go.Proofs.Ytofkodfdgbjboaa
