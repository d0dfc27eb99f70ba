/- TablePaths. -/
import Derived.Test.YtgdmfledhhoedaaGreatDoorC25
import Derived.Test.YtgdmfledhhoedaaGreatDoorC23
import Derived.Laws.Cover1
import Derived.Test.YtgdmfledhhoedaaGreatDoorC02
import Derived.Deep.Slices
import Derived.Lib.SmallJoins
import Derived.Test.YtgdmfledhhoedaaGreatDoorC05
import Derived.Test.YtgdmfledhhoedaaGreatDoorTie
import Derived.Test.YtgdmfledhhoedaaGreatDoorCards
import Derived.ProofKit
import Derived.LaidMore
import Derived.OpenShut
import Derived.Stop.Joined
import Derived.SevenTiedAt
import Derived.ChangeSlices
namespace Go.Proofs.YtgdmfledhhoedaaGreatDoor.T
set_option maxRecDepth 8000
open Go.ChangeShapes Go.WideShapes Go.ChangeAt Go.RowKit Go.Burg
open Go.Burg.Lk Go.Shelf
open Go.Burg.Purse (St Inv)
attribute [local go_sem] Oper.semAt_some
variable {w : World}
theorem rel_zero (n : Nat) : Rel w (List.replicate n ⟨false, Nd.zero, 0⟩) (List.replicate n ⟨false, zeroP, 0⟩) := by
 refine ⟨by simp, fun i c hc => ?_⟩
 have hi := (List.getElem?_eq_some_iff.1 hc).1
 rw [List.getElem?_replicate] at hc
 rw [List.length_replicate] at hi
 rw [if_pos hi] at hc
 cases hc
 refine ⟨⟨false, zeroP, 0⟩, by rw [List.getElem?_replicate, if_pos hi], rfl, rfl, fun h => by cases h⟩
def lastP (E : Ents) : ByteArray := match E.getLast? with
 | some e => e.1
 | none => ⟨#[]⟩
theorem lastP_app (E : Ents) (e : ByteArray × ByteArray) : lastP (E ++ [e]) = e.1 := by simp [lastP]
theorem mk_tenant {W : World} {rb x t sb sg kb km mb m n r : Nat} {L : List (RefK × Wd)} {s : PSt} (h : PW w rb x t sb sg kb km mb m L s W) (hd : PD w rb x t sb sg kb km mb m) (hP : PI s r) (hr : r < 190) (h1 : 1 <= n) (h2 : n <= 16) :
 Calls Tryz.prog 6 #[.pointer (some ⟨x, 0, none⟩), .int .i64 n, .agg #[.int .u64 0, .int .u64 0]] W fun e w' => (∃ v, e = .returned (.int .i64 v)) /\ ∃ s2 L2 p, (s2.lt n).purse = some p /\ PI s2 (r + 1) /\ PW w rb x t sb sg kb km mb m L2 s2 w' := by
 cases hp : (s.lt n).purse with
 | some p =>
  refine (create_twice 0 0 W h.tb h1 h2 hp).mono ?_
  rintro e w' ⟨rfl, hb⟩
  exact ⟨⟨_, rfl⟩, s, L, p, hp, hP.more (by omega), h.keep hb⟩
 | none =>
  obtain ⟨j, pj, hF, hj, hjr, hj2, g0, g1⟩ := hP.first (by omega)
  have hwf := rk_wf (j := j) (g := pj.gen + 1) (by omega) (by omega) (by omega)
  refine (create_P 0 0 W h.tb h.tp hd.xx h1 h2 hp (by rw [hP.gen0 n hp]; omega) hF hj hjr ⟨((j : Int), pj.gen + 1), hwf⟩ rfl rfl).mono ?_
  rintro e w' ⟨rfl, p, pm, hX, hT, _, _, _, hM⟩
  exact ⟨⟨_, rfl⟩, _, _, p, by simp [upd], hP.create hp hj hjr, h.create hd hX hT hM rfl rfl rfl⟩
set_option maxRecDepth 100000 in
set_option maxHeartbeats 8000000 in
theorem paths_any (a0 a1 : Option Addr) (len0 cap0 len1 cap1 : Nat) (ks : Nat -> ByteArray) (ts : Nat -> Nat) (w : World) (hR : RoomsAt w) (h0 : ElAt w a0 len0 (fun i => .string (ks i))) (h1 : ElAt w a1 len1 (fun i => .int .u8 (ts i : Nat))) (hts : ∀ i, ts i <= 255) :
 Calls Tryz.prog 3 #[.slice a0 len0 cap0, .slice a1 len1 cap1] w fun e w' => e = .returned (.bool true) /\ Below w.heap.size w w' := by
 have hb0 := z0a w (.cells #[.bool false] 4 (0, 0))
 have hFR := fresh_at 200 (w.alloc (.cells #[.bool false] 4 (0, 0))) (by omega) (by omega)
 have HB0 := hid hb0
 have HFR := hid hFR
 have HR := hid hR
 have H0 := hid h0
 have H1 := hid h1
 have HTS := hid hts
 clear hb0 hFR hR h0 h1 hts
 have hmm := @run_makeMap Tryz.prog
 refine (callsIn_wide (n := 8)).1 ?_
 refine callsIn_of_wp_marks Tryz.func3 rfl trivial ?_ rfl
 refine wpIn_wide.2 ?_
 simp only [Tryz.ntmps3, List.size_toArray, List.length_cons, List.length_nil, Nat.reduceAdd, Nat.reduceSub, Array.replicate_succ, Array.replicate_zero, List.push_toArray, List.append_toArray, List.nil_append, List.cons_append]
 go_wp2_with (go_at_call 5; refine HFR.out.mono ?_; rintro e w1 ⟨x, t, sb, sg, kb, km, rfl, hX, hT, hlo, hxx, hb1⟩; go_loud (have HX := hid hX; have HT := hid hT; have HLO := hid hlo; have HXX := hid hxx; have HB1 := hid hb1; clear hX hT hlo hxx hb1))
 clear hmm
 have hX := HX.out
 have hT := HT.out
 have hlo := HLO.out
 have hxx := HXX.out
 have hb1 := HB1.out
 have hs0 : (w.alloc (.cells #[.bool false] 4 (0, 0))).heap.size = w.heap.size + 1 := by simp
 rw [hs0] at hlo
 have hbw : Below w.heap.size w (w.alloc (.cells #[.bool false] 4 (0, 0))) := (Below.refl _ _).alloc (Nat.le_refl _) _
 have hmp : z0q Value.string Value.bool ((w1.alloc (.map #[] 0)).alloc (.cells #[.map (some w1.heap.size)] 28 (0, 0))) w1.heap.size ([] : List (ByteArray × Bool)) := by
  refine z0q.alloc ?_ _
  exact ⟨#[], 0, z0a w1 _, rfl, Stamps.empty 0, List.nodup_nil⟩
 have hmb := z0a (w1.alloc (.map #[] 0)) (.cells #[.map (some w1.heap.size)] 28 (0, 0))
 have hs1 : (w1.alloc (.map #[] 0)).heap.size = w1.heap.size + 1 := by simp
 rw [hs1] at hmb
 have hbA : Below w1.heap.size w1 ((w1.alloc (.map #[] 0)).alloc (.cells #[.map (some w1.heap.size)] 28 (0, 0))) := ((Below.refl _ _).alloc (Nat.le_refl _) _).alloc (by simp) _
 have hlt : x < w1.heap.size /\ t < w1.heap.size /\ sb < w1.heap.size /\ sg < w1.heap.size /\ kb < w1.heap.size /\ km < w1.heap.size := ⟨hX.lt, lt_of_block hT.ht, hT.hs.blt, hT.hs.glt, hT.hk.lt.1, hT.hk.lt.2⟩
 have hs2 := hb1.size
 rw [hs0] at hs2
 have hPW : PW w w.heap.size x t sb sg kb km (w1.heap.size + 1) w1.heap.size [] PSt.start ((w1.alloc (.map #[] 0)).alloc (.cells #[.map (some w1.heap.size)] 28 (0, 0))) :=
  ⟨(hbA.block _ (by omega)).trans ((hb1.block _ (by rw [hs0]; omega)).trans HB0.out), hmb, hmp, hX.keep hbA, (z1c.keep ⟨_, hT, rel_zero 200⟩ hbA), (hbw.trans (hb1.mono hbw.size)).trans (hbA.mono (by omega))⟩
 have hPD : PD w w.heap.size x t sb sg kb km (w1.heap.size + 1) w1.heap.size := by
  refine ⟨?_, hxx, ?_, ?_, ?_⟩ <;> omega
 generalize w1.heap.size + 1 = mb at *
 generalize hmm1 : w1.heap.size = m at *
 generalize hrb : w.heap.size = rb at *
 have HPW := hid hPW
 have HPD := hid hPD
 have HRB := hid hrb
 clear hX hT hlo hxx hb1 hs0 hbw hmp hmb hs1 hbA hlt hs2 hPW hPD hmm1 hrb HX HT HLO HXX HB1 HFR HB0
 generalize (w1.alloc (.map #[] 0)).alloc (.cells #[.map (some m)] 28 (0, 0)) = W0 at *
 go_loopw [8] (fun iv wr => ∃ (i : Nat) (s : PSt) (L : List (RefK × Wd)), i <= 40 /\ i <= len0 /\ i <= len1 /\ iv = .int .i64 i /\ PI s (3 * i) /\ PW w rb x t sb sg kb km mb m L s wr) (fun iv _ => 40 - (intOf iv).toNat)
 case atStart => exact ⟨0, PSt.start, [], by omega, by omega, by omega, rfl, PI.start, HPW.out⟩
 case round =>
  obtain ⟨i, s, L, hi40, hi0, hi1, rfl, hPI, hPW⟩ := hrel
  by_cases hc : i < 40 /\ i < len0 /\ i < len1
  ·obtain ⟨hc1, hc2, hc3⟩ := hc
   have d1 : decide ((i : Int) < len0) = true := by simp; omega
   have d2 : decide ((i : Int) < 40) = true := by simp; omega
   have d3 : decide ((i : Int) < len1) = true := by simp; omega
   obtain ⟨bl, off, rfl, g0⟩ := H0.out.get hPW.md hc2
   obtain ⟨bl1, off1, rfl, g1⟩ := H1.out.get hPW.md hc3
   have ht255 := HTS.out i
   have HPW := hid hPW
   have HPI := hid hPI
   clear hPW hPI
   by_cases hks : 16 < (ks i).size
   ·have d4 : decide (((ks i).size : Int) > 16) = true := by simp; omega
    go_wp2_with fail
    go_roundw
    case rel => exact ⟨i + 1, s, L, by omega, by omega, by omega, by go_num, HPI.out.more (by omega), HPW.out⟩
    case measure => simp [intOf]; omega
   ·have d4 : decide (((ks i).size : Int) > 16) = false := by simp; omega
    have HKS := hid hks
    clear hks
    go_wp2_with fail
    have hn : (1 + (ts i : Int) % 16) = ((1 + ts i % 16 : Nat) : Int) := by omega
    rw [hn]
    obtain ⟨n, hnn⟩ : ∃ n, n = 1 + ts i % 16 := ⟨_, rfl⟩
    have hn1 : 1 <= n /\ n <= 16 := by omega
    rw [<- hnn]
    clear hn d1 d2 d3 d4 hnn ht255
    refine (mk_tenant HPW.out HPD.out HPI.out (by omega) hn1.1 hn1.2).mono ?_
    rintro e w2 ⟨⟨v, rfl⟩, s2, L2, p, hp, hPI2, hPW2⟩
    have HPI2 := hid hPI2
    have HPW2 := hid hPW2
    have HAN := hid (Anchor_at w2 hPW2.tb hn1.1 hn1.2 hp)
    have HP := hid hp
    clear hPI2 hPW2 hp HPI HPW g0 g1
    go_wp2_with (go_at_call 7; refine HAN.out.mono ?_; rintro e w3 ⟨rfl, hb3⟩; go_loud (have HB3 := hid hb3; clear hb3))
    have hslot := (HPI2.out.tens.ten n p HP.out).1
    rw [hslot]
    have hr4 := z0a w3 (.cells #[.int .i64 (s2.an n), .int .u32 (s2.lt n).agen] 36 (0, 0))
    have hb4 : Below w2.heap.size w2 (w3.alloc (.cells #[.int .i64 (s2.an n), .int .u32 (s2.lt n).agen] 36 (0, 0))) := HB3.out.alloc HB3.out.size _
    generalize w3.alloc (.cells #[.int .i64 (s2.an n), .int .u32 (s2.lt n).agen] 36 (0, 0)) = W4 at *
    generalize w3.heap.size = ab at *
    have HR4 := hid hr4
    have HPW4 := hid (HPW2.out.keep hb4)
    have hco := codeB_coded (R.keyOf_size (ks i))
    have HLC := hid (fun w1 => R.lcode_at (c := ks i) w1)
    generalize codeB (R.keyOf (ks i)) = c at *
    have hsub := (HPI2.out.tens.ten n p HP.out).2
    obtain ⟨P', S', E', L', hPR, hCh, hPC⟩ := Put_trie hsub hco (v := vB) (by decide) (by rw [HPI2.out.len]; omega) HPI2.out.gok (by have := HPI2.out.room; omega) L2 0
    have HPI4 := hid (HPI2.out.put hn1.1 hn1.2 HP.out hPR hCh)
    have h0lt := HR.out.lt
    have HPT := hid (fun w1 (hb : Below W4.heap.size W4 w1) => hPC t sb sg kb km w1 (HPW4.out.keep hb).tp (HR.out.below (HPW4.out.keep hb).md h0lt) (fun e => by have := HPD.out.lo; rcases e with e | e <;> omega))
    have HCO := hid hco
    clear hslot hr4 hb4 HB3 HPW2 HAN hsub hPR hCh hPC hco
    have HG0 : Hid (∀ w1 L3 s3, PW w rb x t sb sg kb km mb m L3 s3 w1 -> w1.cell? ⟨bl, off + i, none⟩ = some (.string (ks i))) := hid fun w1 _ _ h => by
     obtain ⟨_, _, e0, g0⟩ := H0.out.get h.md hc2
     cases e0
     exact g0
    have habn : ab ≠ sg /\ ab ≠ km := by
     obtain ⟨l4, ht4, _⟩ := HPW4.out.tp
     exact ⟨fun e => (ht4.noRow ab (.inl e) _ _ _ HR4.out).2 rfl, fun e => (ht4.noRow ab (.inr e) _ _ _ HR4.out).2 rfl⟩
    have HS3 : Hid (∀ w1 w', Below W4.heap.size W4 w1 -> z1c w' t sb sg kb km P' L' 0 -> Mod (TOwn sg km) w1 w' -> (PW w rb x t sb sg kb km mb m L' ⟨s2.lt, s2.an, updF s2.Zs n S', updF s2.Es n E', P', s2.W⟩ w' /\ (w').heap[ab]? = some (.cells #[.int .i64 (s2.an n), .int .u32 (s2.lt n).agen] 36 (0, 0)))) := hid fun w1 w' hb hT hM =>
     ⟨(HPW4.out.keep hb).tree HPD.out hT hM rfl rfl rfl, (hM.block ab (Nat.lt_of_lt_of_le (lt_of_block HR4.out) hb.size) (fun e => e.elim habn.1 habn.2)).trans (z0b HR4.out hb (lt_of_block HR4.out))⟩
    refine z2e 13 (VT [0, 1, 2, 3, 4, 5, 6, 10, 12] (fun j => ([.pointer (some ⟨t, 0, none⟩), .agg #[.int .i64 (s2.an n), .int .u32 (s2.lt n).agen], .slice (some ⟨bl, off, none⟩) len0 cap0, .int .i64 i, .pointer (some ⟨bl, off + i, none⟩), .string (ks i), .string c, undef, undef, undef, .int .i64 0, undef, .int .i64 0] : List Value)[j]?.getD undef) (fun j v => (j = 7 \/ j = 8) -> ∃ d, v = .tuple #[d, .int .i64 0]) 7 (fun w1 => Below W4.heap.size W4 w1) (fun w1 => (PW w rb x t sb sg kb km mb m L' ⟨s2.lt, s2.an, updF s2.Zs n S', updF s2.Es n E', P', s2.W⟩ w1 /\ (w1).heap[ab]? = some (.cells #[.int .i64 (s2.an n), .int .u32 (s2.lt n).agen] 36 (0, 0))))) (by kernel_rfl) (by kernel_rfl) (by kernel_rfl) (VT.start ((Below.refl _ _).drew)) ?_ ?_
    ·dsimp only [List.take, z1a, dsts, fill]
     refine ⟨?_, ?_, ?_, ?_, ?_, ?_, ?_, ?_, ?_, ?_, ?_, ?_, ?_⟩
     ·intro D xs w1 hDk hwt hJ
      have HJ := hid hJ
      have HD := hid hDk
      clear hDk hwt hJ
      go_wp2_with (fail)
      refine ⟨.pointer (some ⟨t, 0, none⟩), by kernel_rfl, ?_⟩
      try (intro q h; obtain rfl := h rfl)
      exact VT.calm HJ.out HD.out (by decide) (fun _ => rfl) (fun h => (by rcases h with h | h <;> cases h)) id id
     ·intro D xs w1 hDk hwt hJ
      have hk4 : w1.heap[ab]? = some (.cells #[.int .i64 (s2.an n), .int .u32 (s2.lt n).agen] 36 (0, 0)) := by
       have := hJ.p
       cases hd : D 7 <;> rw [hd] at this
       ·exact z0b HR4.out this (lt_of_block HR4.out)
       ·exact this.2
      have k0 := cell_of hk4 0
      have k1 := cell_of hk4 1
      clear hk4
      have HJ := hid hJ
      have HD := hid hDk
      clear hDk hwt hJ
      go_wp2_with (fail)
      refine ⟨.agg #[.int .i64 (s2.an n), .int .u32 (s2.lt n).agen], by kernel_rfl, ?_⟩
      try (intro q h; obtain rfl := h rfl)
      exact VT.calm HJ.out HD.out (by decide) (fun _ => rfl) (fun h => (by rcases h with h | h <;> cases h)) id id
     ·intro D xs w1 hDk hwt hJ
      have HJ := hid hJ
      have HD := hid hDk
      clear hDk hwt hJ
      go_wp2_with (fail)
      refine ⟨.slice (some ⟨bl, off, none⟩) len0 cap0, by kernel_rfl, ?_⟩
      try (intro q h; obtain rfl := h rfl)
      exact VT.calm HJ.out HD.out (by decide) (fun _ => rfl) (fun h => (by rcases h with h | h <;> cases h)) id id
     ·intro D xs w1 hDk hwt hJ
      have HJ := hid hJ
      have HD := hid hDk
      clear hDk hwt hJ
      go_wp2_with (fail)
      refine ⟨.int .i64 i, by kernel_rfl, ?_⟩
      try (intro q h; obtain rfl := h rfl)
      exact VT.calm HJ.out HD.out (by decide) (fun _ => rfl) (fun h => (by rcases h with h | h <;> cases h)) id id
     ·intro D xs w1 hDk hwt hJ
      rw [show xs 2 = .slice (some ⟨bl, off, none⟩) len0 cap0 from hJ.v 2 (hwt 2 (eM (by kernel_rfl))) (by decide)]
      rw [show xs 3 = .int .i64 i from hJ.v 3 (hwt 3 (eM (by kernel_rfl))) (by decide)]
      have HJ := hid hJ
      have HD := hid hDk
      clear hDk hwt hJ
      go_wp2_with (fail)
      refine ⟨.pointer (some ⟨bl, off + i, none⟩), by kernel_rfl, ?_⟩
      try (intro q h; obtain rfl := h rfl)
      exact VT.calm HJ.out HD.out (by decide) (fun _ => rfl) (fun h => (by rcases h with h | h <;> cases h)) id id
     ·intro D xs w1 hDk hwt hJ
      rw [show xs 4 = .pointer (some ⟨bl, off + i, none⟩) from hJ.v 4 (hwt 4 (eM (by kernel_rfl))) (by decide)]
      have g0 : w1.cell? ⟨bl, off + i, none⟩ = some (.string (ks i)) := by
       have := hJ.p
       cases hd : D 7 <;> rw [hd] at this
       ·exact HG0.out _ _ _ (HPW4.out.keep this)
       ·exact HG0.out _ _ _ this.1
      have HJ := hid hJ
      have HD := hid hDk
      clear hDk hwt hJ
      go_wp2_with (fail)
      refine ⟨.string (ks i), by kernel_rfl, ?_⟩
      try (intro q h; obtain rfl := h rfl)
      exact VT.calm HJ.out HD.out (by decide) (fun _ => rfl) (fun h => (by rcases h with h | h <;> cases h)) id id
     ·intro D xs w1 hDk hwt hJ
      rw [show xs 5 = .string (ks i) from hJ.v 5 (hwt 5 (eM (by kernel_rfl))) (by decide)]
      have HJ := hid hJ
      have HD := hid hDk
      clear hDk hwt hJ
      go_wp2_with (go_at_call 9; refine (HLC.out _).mono ?_; rintro e w' ⟨rfl, rfl⟩)
      refine ⟨.string c, by kernel_rfl, ?_⟩
      try (intro q h; obtain rfl := h rfl)
      exact VT.calm HJ.out HD.out (by decide) (fun _ => rfl) (fun h => (by rcases h with h | h <;> cases h)) id id
     ·intro D xs w1 hDk hwt hJ
      rw [show xs 0 = .pointer (some ⟨t, 0, none⟩) from hJ.v 0 (hwt 0 (eM (by kernel_rfl))) (by decide)]
      rw [show xs 1 = .agg #[.int .i64 (s2.an n), .int .u32 (s2.lt n).agen] from hJ.v 1 (hwt 1 (eM (by kernel_rfl))) (by decide)]
      rw [show xs 6 = .string c from hJ.v 6 (hwt 6 (eM (by kernel_rfl))) (by decide)]
      have HB0 := hid (hJ.p0 hDk)
      have HJ := hid hJ
      have HD := hid hDk
      clear hDk hwt hJ
      go_wp2_with (go_at_call 8; refine (HPT.out w1 HB0.out).mono ?_; rintro e w5 ⟨⟨d, rfl⟩, hT5, hM5⟩; go_loud (have H5 := hid (HS3.out w1 w5 HB0.out hT5 hM5); clear hT5 hM5))
      refine ⟨.tuple #[d, .int .i64 0], by kernel_rfl, ?_⟩
      try (intro q h; obtain rfl := h rfl)
      exact VT.turn HJ.out HD.out (fun h => absurd h (by decide)) (fun _ => ⟨d, rfl⟩) (H5.out)
     ·intro D xs w1 hDk hwt hJ
      obtain ⟨d, e7⟩ := hJ.f 7 (hwt 7 (eM (by kernel_rfl))) (.inl rfl)
      rw [e7]
      clear e7
      have HJ := hid hJ
      have HD := hid hDk
      clear hDk hwt hJ
      go_wp2_with (fail)
      refine ⟨.tuple #[d, .int .i64 0], by kernel_rfl, ?_⟩
      try (intro q h; obtain rfl := h rfl)
      exact VT.calm HJ.out HD.out (by decide) (fun h => absurd h (by decide)) (fun _ => ⟨d, rfl⟩) id id
     ·intro D xs w1 hDk hwt hJ
      obtain ⟨d, e7⟩ := hJ.f 8 (hwt 8 (eM (by kernel_rfl))) (.inr rfl)
      rw [e7]
      clear e7
      have HJ := hid hJ
      have HD := hid hDk
      clear hDk hwt hJ
      go_wp2_with (fail)
      refine ⟨d, by kernel_rfl, ?_⟩
      try (intro q h; obtain rfl := h rfl)
      exact VT.calm HJ.out HD.out (by decide) (fun h => absurd h (by decide)) (fun h => (by rcases h with h | h <;> cases h)) id id
     ·intro D xs w1 hDk hwt hJ
      obtain ⟨d, e7⟩ := hJ.f 8 (hwt 8 (eM (by kernel_rfl))) (.inr rfl)
      rw [e7]
      clear e7
      have HJ := hid hJ
      have HD := hid hDk
      clear hDk hwt hJ
      go_wp2_with (fail)
      refine ⟨.int .i64 0, by kernel_rfl, ?_⟩
      try (intro q h; obtain rfl := h rfl)
      exact VT.calm HJ.out HD.out (by decide) (fun _ => rfl) (fun h => (by rcases h with h | h <;> cases h)) id id
     ·intro D xs w1 hDk hwt hJ
      have HJ := hid hJ
      have HD := hid hDk
      clear hDk hwt hJ
      go_wp2_with (fail)
      refine ⟨xs 9, by kernel_rfl, ?_⟩
      try (intro q h; obtain rfl := h rfl)
      exact VT.calm HJ.out HD.out (by decide) (fun h => absurd h (by decide)) (fun h => (by rcases h with h | h <;> cases h)) id id
     ·intro D xs w1 hDk hwt hJ
      rw [show xs 10 = .int .i64 0 from hJ.v 10 (hwt 10 (eM (by kernel_rfl))) (by decide)]
      have HJ := hid hJ
      have HD := hid hDk
      clear hDk hwt hJ
      go_wp2_with (fail)
      refine ⟨.int .i64 0, by kernel_rfl, ?_⟩
      try (intro q h; obtain rfl := h rfl)
      exact VT.calm HJ.out HD.out (by decide) (fun _ => rfl) (fun h => (by rcases h with h | h <;> cases h)) id id
    intro D xs w5 hD hJ
    have hP5 := hJ.p1 (hD 7 (by omega))
    have e12 : xs 12 = .int .i64 0 := hJ.v 12 (hD 12 (by omega)) (by decide)
    have HPW5 := hid hP5.1
    dsimp only [List.take, dsts, fill, List.drop]
    rw [e12]
    clear hD hJ hP5 e12 HS3 HPT HR4 HPW4 habn
    go_wp2_with fail
    have hcv8 : IntKind.u8.wrap (n : Int) = n := by rw [IntKind.wrap_u8]; omega
    obtain ⟨B, HB5⟩ : ∃ B, Hid (B = w5.heap.size) := ⟨_, hid rfl⟩
    have HCV : Hid (∀ w1 : World, w1.heap[B]? = some (.cells #[.int .u8 0, .int .u8 0, .int .u8 0, .int .u8 0, .int .u8 0, .int .u8 0, .int .u8 0, .int .u8 n] 5 (0, 0)) -> (convert 23 9 (.slice (some ⟨B, 0, none⟩) 8 8)).run Tryz.prog w1 = .ok (.string (z2b n)) w1) := hid fun w1 hby => by
     have := run_convert_bytes_back (P := Tryz.prog) w1 23 9 5 ⟨B, 0, none⟩ 8 [0, 0, 0, 0, 0, 0, 0, UInt8.ofNat n] Tryz.underlying23 (by kernel_rfl) Tryz.underlying9 (fun j hj => by
      have e8 : (n : Int) % 256 = n := by omega
      have hz := cell_of hby j
      rcases (by simpa using hj : j < 8) with hj
      rcases (by omega : j = 0 \/ j = 1 \/ j = 2 \/ j = 3 \/ j = 4 \/ j = 5 \/ j = 6 \/ j = 7) with rfl | rfl | rfl | rfl | rfl | rfl | rfl | rfl <;> simpa [e8, Addr.add] using hz)
     exact this
    have HMB5 : Hid (∀ D' xs' w1, VT [0, 1, 2, 3, 4, 5, 6, 7, 8, 9, 10] (fun j => ([.map (some m), .int .i64 n, .int .u8 n, .slice (some ⟨B, 0, none⟩) 8 8, .string (z2b n), .slice (some ⟨bl, off, none⟩) len0 cap0, .int .i64 i, .pointer (some ⟨bl, off + i, none⟩), .string (ks i), .string c, .string (z2b n ++ c)] : List Value)[j]?.getD undef) (fun _ _ => True) 3 (fun w1 => w1.heap.size = B /\ Below w5.heap.size w5 w1) (fun w1 => w1.heap[B]? = some (.cells #[.int .u8 0, .int .u8 0, .int .u8 0, .int .u8 0, .int .u8 0, .int .u8 0, .int .u8 0, .int .u8 n] 5 (0, 0)) /\ Below w5.heap.size w5 w1) D' xs' w1 -> Below w5.heap.size w5 w1) := hid fun D' xs' w1 hJ => by
     have := hJ.p
     cases hd : D' 3 <;> rw [hd] at this
     ·exact this.2
     ·exact this.2
    refine z2e 11 (VT [0, 1, 2, 3, 4, 5, 6, 7, 8, 9, 10] (fun j => ([.map (some m), .int .i64 n, .int .u8 n, .slice (some ⟨B, 0, none⟩) 8 8, .string (z2b n), .slice (some ⟨bl, off, none⟩) len0 cap0, .int .i64 i, .pointer (some ⟨bl, off + i, none⟩), .string (ks i), .string c, .string (z2b n ++ c)] : List Value)[j]?.getD undef) (fun _ _ => True) 3 (fun w1 => w1.heap.size = B /\ Below w5.heap.size w5 w1) (fun w1 => w1.heap[B]? = some (.cells #[.int .u8 0, .int .u8 0, .int .u8 0, .int .u8 0, .int .u8 0, .int .u8 0, .int .u8 0, .int .u8 n] 5 (0, 0)) /\ Below w5.heap.size w5 w1)) (by kernel_rfl) (by kernel_rfl) (by kernel_rfl) (VT.start ⟨by rw [HB5.out]; simp, (Below.refl _ _).drew⟩) ?_ ?_
    ·dsimp only [List.take, z1a, dsts, fill]
     refine ⟨?_, ?_, ?_, ?_, ?_, ?_, ?_, ?_, ?_, ?_, ?_⟩
     ·intro D xs w1 hDk hwt hJ
      have k0 := cell_of ((HPW5.out.keep (HMB5.out _ _ _ hJ)).mb) 0
      have HJ := hid hJ
      have HD := hid hDk
      clear hDk hwt hJ
      go_wp2_with (fail)
      refine ⟨.map (some m), by kernel_rfl, ?_⟩
      try (intro q h; obtain rfl := h rfl)
      exact VT.calm HJ.out HD.out (by decide) (fun _ => rfl) (trivial) id id
     ·intro D xs w1 hDk hwt hJ
      have HJ := hid hJ
      have HD := hid hDk
      clear hDk hwt hJ
      go_wp2_with (fail)
      refine ⟨.int .i64 n, by kernel_rfl, ?_⟩
      try (intro q h; obtain rfl := h rfl)
      exact VT.calm HJ.out HD.out (by decide) (fun _ => rfl) (trivial) id id
     ·intro D xs w1 hDk hwt hJ
      rw [show xs 1 = .int .i64 n from hJ.v 1 (hwt 1 (eM (by kernel_rfl))) (by decide)]
      have HJ := hid hJ
      have HD := hid hDk
      clear hDk hwt hJ
      go_wp2_with (fail)
      refine ⟨.int .u8 n, by kernel_rfl, ?_⟩
      try (intro q h; obtain rfl := h rfl)
      exact VT.calm HJ.out HD.out (by decide) (fun _ => rfl) (trivial) id id
     ·intro D xs w1 hDk hwt hJ
      rw [show xs 2 = .int .u8 n from hJ.v 2 (hwt 2 (eM (by kernel_rfl))) (by decide)]
      obtain ⟨hsz, hbw⟩ := hJ.p0 hDk
      have HSZ := hid hsz
      have HBW := hid hbw
      clear hsz hbw
      have HJ := hid hJ
      have HD := hid hDk
      clear hDk hwt hJ
      go_wp2_with fail
      have hP1 : (w1.alloc (.cells #[.int .u8 0, .int .u8 0, .int .u8 0, .int .u8 0, .int .u8 0, .int .u8 0, .int .u8 0, .int .u8 n] 5 (0, 0))).heap[B]? = some (.cells #[.int .u8 0, .int .u8 0, .int .u8 0, .int .u8 0, .int .u8 0, .int .u8 0, .int .u8 0, .int .u8 n] 5 (0, 0)) /\ Below w5.heap.size w5 (w1.alloc (.cells #[.int .u8 0, .int .u8 0, .int .u8 0, .int .u8 0, .int .u8 0, .int .u8 0, .int .u8 0, .int .u8 n] 5 (0, 0))) := ⟨by rw [<- HSZ.out]; exact z0a _ _, HBW.out.alloc HBW.out.size _⟩
      exact ⟨.slice (some ⟨w1.heap.size, 0, none⟩) 8 8, by kernel_rfl, fun q hq => by obtain rfl := hq rfl; exact VT.turn HJ.out HD.out (fun _ => by rw [HSZ.out]; rfl) trivial hP1⟩
     ·intro D xs w1 hDk hwt hJ
      rw [show xs 3 = .slice (some ⟨B, 0, none⟩) 8 8 from hJ.v 3 (hwt 3 (eM (by kernel_rfl))) (by decide)]
      have hcv := HCV.out w1 (hJ.p1 (hwt 3 (eM (by kernel_rfl)))).1
      have HJ := hid hJ
      have HD := hid hDk
      clear hDk hwt hJ
      go_wp2_with (fail)
      refine ⟨.string (z2b n), by kernel_rfl, ?_⟩
      try (intro q h; obtain rfl := h rfl)
      exact VT.calm HJ.out HD.out (by decide) (fun _ => rfl) (trivial) id id
     ·intro D xs w1 hDk hwt hJ
      have HJ := hid hJ
      have HD := hid hDk
      clear hDk hwt hJ
      go_wp2_with (fail)
      refine ⟨.slice (some ⟨bl, off, none⟩) len0 cap0, by kernel_rfl, ?_⟩
      try (intro q h; obtain rfl := h rfl)
      exact VT.calm HJ.out HD.out (by decide) (fun _ => rfl) (trivial) id id
     ·intro D xs w1 hDk hwt hJ
      have HJ := hid hJ
      have HD := hid hDk
      clear hDk hwt hJ
      go_wp2_with (fail)
      refine ⟨.int .i64 i, by kernel_rfl, ?_⟩
      try (intro q h; obtain rfl := h rfl)
      exact VT.calm HJ.out HD.out (by decide) (fun _ => rfl) (trivial) id id
     ·intro D xs w1 hDk hwt hJ
      rw [show xs 5 = .slice (some ⟨bl, off, none⟩) len0 cap0 from hJ.v 5 (hwt 5 (eM (by kernel_rfl))) (by decide)]
      rw [show xs 6 = .int .i64 i from hJ.v 6 (hwt 6 (eM (by kernel_rfl))) (by decide)]
      have HJ := hid hJ
      have HD := hid hDk
      clear hDk hwt hJ
      go_wp2_with (fail)
      refine ⟨.pointer (some ⟨bl, off + i, none⟩), by kernel_rfl, ?_⟩
      try (intro q h; obtain rfl := h rfl)
      exact VT.calm HJ.out HD.out (by decide) (fun _ => rfl) (trivial) id id
     ·intro D xs w1 hDk hwt hJ
      rw [show xs 7 = .pointer (some ⟨bl, off + i, none⟩) from hJ.v 7 (hwt 7 (eM (by kernel_rfl))) (by decide)]
      have g0 := HG0.out _ _ _ (HPW5.out.keep (HMB5.out _ _ _ hJ))
      have HJ := hid hJ
      have HD := hid hDk
      clear hDk hwt hJ
      go_wp2_with (fail)
      refine ⟨.string (ks i), by kernel_rfl, ?_⟩
      try (intro q h; obtain rfl := h rfl)
      exact VT.calm HJ.out HD.out (by decide) (fun _ => rfl) (trivial) id id
     ·intro D xs w1 hDk hwt hJ
      rw [show xs 8 = .string (ks i) from hJ.v 8 (hwt 8 (eM (by kernel_rfl))) (by decide)]
      have HJ := hid hJ
      have HD := hid hDk
      clear hDk hwt hJ
      go_wp2_with (go_at_call 9; refine (HLC.out _).mono ?_; rintro e w' ⟨rfl, rfl⟩)
      refine ⟨.string c, by kernel_rfl, ?_⟩
      try (intro q h; obtain rfl := h rfl)
      exact VT.calm HJ.out HD.out (by decide) (fun _ => rfl) (trivial) id id
     ·intro D xs w1 hDk hwt hJ
      rw [show xs 4 = .string (z2b n) from hJ.v 4 (hwt 4 (eM (by kernel_rfl))) (by decide)]
      rw [show xs 9 = .string c from hJ.v 9 (hwt 9 (eM (by kernel_rfl))) (by decide)]
      have hcz := HCO.out.size
      have hpz : (z2b n).size = 8 := rfl
      have HJ := hid hJ
      have HD := hid hDk
      clear hDk hwt hJ
      go_wp2_with (fail)
      refine ⟨.string (z2b n ++ c), by kernel_rfl, ?_⟩
      try (intro q h; obtain rfl := h rfl)
      exact VT.calm HJ.out HD.out (by decide) (fun _ => rfl) (trivial) id id
    intro D xs w6 hD hJ
    have hb6 := HMB5.out _ _ _ hJ
    have e0 : xs 0 = .map (some m) := hJ.v 0 (hD 0 (by omega)) (by decide)
    have e10 : xs 10 = .string (z2b n ++ c) := hJ.v 10 (hD 10 (by omega)) (by decide)
    have HPW6 := hid (HPW5.out.keep hb6)
    dsimp only [List.take, dsts, fill, List.drop]
    rw [e0, e10]
    clear hD hJ e0 e10 hb6 HMB5 HCV HPW5
    refine wpList_store_map (P := Tryz.prog) (by kernel_rfl) (.tmp 79) (.tmp 89) (.const (.bool true)) 28 (by kernel_rfl) strKey Tryz.underlying28 (by kernel_rfl) (z2b n ++ c) (by kernel_rfl) true (by kernel_rfl) HPW6.out.mp ?_
    intro w7 hP7 hM7
    have HPW7 := hid (HPW6.out.map HPD.out (s' := ⟨s2.lt, s2.an, updF s2.Zs n S', updF s2.Es n E', P', setKV s2.W (z2b n ++ c) true⟩) hP7 hM7 rfl rfl rfl)
    clear hP7 hM7
    go_wp2_with fail
    go_roundw
    case rel => exact ⟨i + 1, _, _, by omega, by omega, by omega, by go_num, by have := HPI4.out; rwa [show 3 * i + 1 + 2 = 3 * (i + 1) by omega] at this, HPW7.out⟩
    case measure => simp [intOf]; omega
  ·have hcase : i = len0 \/ (i < len0 /\ decide ((i : Int) < 40) = false) \/ (i < len0 /\ i < 40 /\ i = len1) := by
    simp only [decide_eq_false_iff_not]
    omega
   have HPW := hid hPW
   have HPI := hid hPI
   clear hPW hPI hc
   obtain ⟨lp, hTA, hRE⟩ := HPW.out.tp
   have hlt : t < wr.heap.size /\ sb < wr.heap.size /\ sg < wr.heap.size /\ kb < wr.heap.size /\ km < wr.heap.size := ⟨lt_of_block hTA.ht, hTA.hs.blt, hTA.hs.glt, hTA.hk.lt.1, hTA.hk.lt.2⟩
   have hwl0 : Below wr.heap.size wr (((wr.alloc (.cells #[.string (⟨#[]⟩ : ByteArray)] 9 (0, 0))).alloc (.cells #[.int .i64 0] 3 (0, 0))).alloc (.cells #[.pointer (some ⟨x, 0, none⟩)] 24 (0, 0))) := (((Below.refl _ _).alloc (Nat.le_refl _) _).alloc (by simp) _).alloc (by simp; omega) _
   have hb1 := z0d (o' := (.cells #[.pointer (some ⟨x, 0, none⟩)] 24 (0, 0))) (z0d (o' := (.cells #[.int .i64 0] 3 (0, 0))) (z0a wr (.cells #[.string (⟨#[]⟩ : ByteArray)] 9 (0, 0))))
   have hb2 := z0d (o' := (.cells #[.pointer (some ⟨x, 0, none⟩)] 24 (0, 0))) (z0a (wr.alloc (.cells #[.string (⟨#[]⟩ : ByteArray)] 9 (0, 0))) (.cells #[.int .i64 0] 3 (0, 0)))
   have hb3 := z0a ((wr.alloc (.cells #[.string (⟨#[]⟩ : ByteArray)] 9 (0, 0))).alloc (.cells #[.int .i64 0] 3 (0, 0))) (.cells #[.pointer (some ⟨x, 0, none⟩)] 24 (0, 0))
   have hsz1 : (wr.alloc (.cells #[.string (⟨#[]⟩ : ByteArray)] 9 (0, 0))).heap.size = wr.heap.size + 1 := by simp
   have hsz2 : ((wr.alloc (.cells #[.string (⟨#[]⟩ : ByteArray)] 9 (0, 0))).alloc (.cells #[.int .i64 0] 3 (0, 0))).heap.size = wr.heap.size + 1 + 1 := by simp
   have hsz3 : (((wr.alloc (.cells #[.string (⟨#[]⟩ : ByteArray)] 9 (0, 0))).alloc (.cells #[.int .i64 0] 3 (0, 0))).alloc (.cells #[.pointer (some ⟨x, 0, none⟩)] 24 (0, 0))).heap.size = wr.heap.size + 1 + 1 + 1 := by simp
   rw [hsz1] at hb2
   rw [hsz2] at hb3
   obtain ⟨Wl, hWl⟩ : ∃ Wl, Wl = (((wr.alloc (.cells #[.string (⟨#[]⟩ : ByteArray)] 9 (0, 0))).alloc (.cells #[.int .i64 0] 3 (0, 0))).alloc (.cells #[.pointer (some ⟨x, 0, none⟩)] 24 (0, 0))) := ⟨_, rfl⟩
   rw [<- hWl] at hwl0 hb1 hb2 hb3 hsz3
   generalize hH : wr.heap.size = H at *
   rw [<- hH] at hwl0
   have HPL := hid (HPW.out.keep hwl0)
   have hTA := hTA.keep hwl0
   have hRE := hRE.keep hwl0
   have hpost : ∀ n, ∃ R, n ∈ tens s.lt 16 -> Post s.P (s.an n) (s.lt n).agen (s.Zs n) R (s.Es n) := fun n => by
    by_cases hn : n ∈ tens s.lt 16
    ·obtain ⟨p, hp⟩ := Option.isSome_iff_exists.1 (mem_tens.1 hn).2.2
     obtain ⟨R, hR⟩ := (HPI.out.tens.ten n p hp).2.post
     exact ⟨R, fun _ => hR⟩
    ·exact ⟨[], fun h => absurd h hn⟩
   obtain ⟨Rs, hRs⟩ := Classical.axiomOfChoice hpost
   have htop : ∀ n, ∃ q, n ∈ tens s.lt 16 -> z0k s.P (s.an n) (s.lt n).agen (s.an n) q /\ q.planted = true := fun n => by
    by_cases hn : n ∈ tens s.lt 16
    ·obtain ⟨p, hp⟩ := Option.isSome_iff_exists.1 (mem_tens.1 hn).2.2
     obtain ⟨k, pt, Lk, hl⟩ := sub_top (HPI.out.tens.ten n p hp).2
     exact ⟨_, fun _ => ⟨hl, rfl⟩⟩
    ·exact ⟨zeroP, fun h => absurd h hn⟩
   obtain ⟨qs, hqs⟩ := Classical.axiomOfChoice htop
   have hmem : ∀ n, n ∈ tens s.lt 16 -> (s.lt n).slot = (s.an n : Int) /\ ∃ p, (s.lt n).purse = some p := fun n hn => by
    obtain ⟨p, hp⟩ := Option.isSome_iff_exists.1 (mem_tens.1 hn).2.2
    exact ⟨(HPI.out.tens.ten n p hp).1, p, hp⟩
   have hsub : ∀ n, n ∈ tens s.lt 16 -> Sub s.P (s.an n) (s.lt n).agen true [] (s.Zs n) (s.Es n) := fun n hn => by
    obtain ⟨_, p, hp⟩ := hmem n hn
    exact (HPI.out.tens.ten n p hp).2
   have HUP := hid (all_up (lt := s.lt) (Es := s.Es) fun n hn => (hsub n hn).up)
   let Mine : World -> Nat -> Prop := fun W k => (k = H \/ k = H + 1) /\ k < W.heap.size
   have hMine : MineX (H + 1 + 1) Mine (fun _ => True) := MineOk.x ⟨fun hn _ _ h => ⟨h.1, by rcases h.1 with e | e <;> omega⟩⟩ (fun _ _ h => h.2)
   have HSEQ : Hid (SeqOwnC (fun _ W => TAllC (fun _ => True) Wl lp s.Zs s.lt x t sb sg kb km W) Mine Tryz.prog 41 #[.pointer (some ⟨(H + 1 + 1), 0, none⟩)] encE (H + 1 + 1) (fun xs => xs = z0v s.lt s.Es) (fun pre => pre <+: z0v s.lt s.Es) Wl) :=
    hid (tall_own hRE Mine hMine (fun n hn => (hmem n hn).1) hRs hqs (fun n hn e he => by have := ((hsub n hn).mem e he).2.size; omega) (H + 1 + 1) Wl hb3 (Nat.le_refl _) (fun h => by rcases h.1 with e | e <;> omega) trivial)
   have HSZ := hid hsz3
   have HTA := hid hTA
   have hng : ∀ k, (k = H \/ k = H + 1) -> (k ≠ x /\ k ≠ m /\ k ≠ rb /\ k ≠ mb /\ k ≠ t /\ k ≠ sb /\ k ≠ sg /\ k ≠ kb /\ k ≠ km /\ w.heap.size <= k) := fun k hk => by
    have a1 := HPW.out.tb.lt
    have a2 := HPW.out.mp.lt
    have a3 := lt_of_block HPW.out.rb
    have a4 := lt_of_block HPW.out.mb
    have a5 := HPW.out.md.size
    rw [hH] at a1 a2 a3 a4 a5
    rcases hk with e | e <;> (refine ⟨?_, ?_, ?_, ?_, ?_, ?_, ?_, ?_, ?_, ?_⟩ <;> omega)
   have HNG := hid hng
   have hI : OwnFrom Wl.heap.size (fun (pre : Ents) W => (Mod (fun k => k = H \/ k = H + 1) Wl W /\ (W).heap[H]? = some (.cells #[.string (lastP pre)] 9 (0, 0)) /\ (W).heap[H + 1]? = some (.cells #[.int .i64 ((pre).length : Nat)] 3 (0, 0)) /\ pre <+: z0v s.lt s.Es)) := by
    intro pre A B row hs hg hr
    have hM : Mod (fun i => row = some i) A B := ⟨hg.os, hg.tape, hg.output, hg.size, fun k hk hn => hg.block k hk (fun e => hn e.symm)⟩
    have e : ∀ (k : Nat) (o : Obj), k < Wl.heap.size -> A.heap[k]? = some o -> B.heap[k]? = some o := fun k o hk ho => (hg.block k (lt_of_block ho) (fun e => by have := (hr k e.symm).1; omega)).trans ho
    exact ⟨hs.1.trans hM (fun i hi h => absurd (hr i h).1 (by omega)), e _ _ (by omega) hs.2.1, e _ _ (by omega) hs.2.2.1, hs.2.2.2⟩
   have hC : ∀ (pre : Ents) W1, (Mod (fun k => k = H \/ k = H + 1) Wl W1 /\ (W1).heap[H]? = some (.cells #[.string (lastP pre)] 9 (0, 0)) /\ (W1).heap[H + 1]? = some (.cells #[.int .i64 ((pre).length : Nat)] 3 (0, 0)) /\ pre <+: z0v s.lt s.Es) -> TAllC (fun _ => True) Wl lp s.Zs s.lt x t sb sg kb km W1 := fun pre W1 h => by
    refine ⟨HPL.out.tb.mod h.1 (fun hk => (hng _ hk).1 rfl), ⟨lp, L, 0, hTA.mod h.1 (fun hk => (hng _ hk).2.2.2.2.1 rfl) (fun hk => (hng _ hk).2.2.2.2.2.1 rfl) (fun hk => (hng _ hk).2.2.2.2.2.2.1 rfl) (fun hk => (hng _ hk).2.2.2.2.2.2.2.1 rfl) (fun hk => (hng _ hk).2.2.2.2.2.2.2.2.1 rfl), fun _ _ _ _ => rfl⟩, fun k cs fr hk => (h.1.block k (lt_of_block hk) (fun ho => ?_)).trans hk, trivial⟩
    rcases ho with e | e
    ·rw [e, hb1] at hk; cases hk
    ·rw [e, hb2] at hk; cases hk
   have h00 : (Mod (fun k => k = H \/ k = H + 1) Wl Wl /\ (Wl).heap[H]? = some (.cells #[.string (lastP ([] : Ents))] 9 (0, 0)) /\ (Wl).heap[H + 1]? = some (.cells #[.int .i64 ((([] : Ents)).length : Nat)] 3 (0, 0)) /\ ([] : Ents) <+: z0v s.lt s.Es) := ⟨Mod.refl _ _, hb1, hb2, List.nil_prefix⟩
   have HI := hid hI
   have HCC := hid hC
   have H00 := hid h00
   clear hI hC h00 hng hTA hRE hpost hRs htop hqs hmem hsub hb1 hb2 hb3 hsz1 hsz3 hwl0 hlt
   rcases hcase with rfl | ⟨d1, d2⟩ | ⟨d1, d2, rfl⟩
   all_goals
    go_wp2_with (go_at_call 10; refine (tabAll_at _).mono ?_; rintro e w2 ⟨rfl, rfl⟩)
    try rw [hsz2]
    have HWL := hid hWl
    clear hWl
    rw [<- HWL.out]
    refine wpIn_wide.1 (range_ownC (n := 8) (by decide) (gf := 41) (lb := #[.pointer (some ⟨(H + 1 + 1), 0, none⟩)]) rfl (enters_of Tryz.func41 (by kernel_rfl) rfl) Mine hMine (fun _ W => TAllC (fun _ => True) Wl lp s.Zs s.lt x t sb sg kb km W) (fun _ _ _ => trivial) HSEQ.out (by have := HSZ.out; omega) (fun _ h => h.2) (Below.refl _ _) (fun _ => rfl)
     (fun pre W => (Mod (fun k => k = H \/ k = H + 1) Wl W /\ (W).heap[H]? = some (.cells #[.string (lastP pre)] 9 (0, 0)) /\ (W).heap[H + 1]? = some (.cells #[.int .i64 ((pre).length : Nat)] 3 (0, 0)) /\ pre <+: z0v s.lt s.Es)) (fun _ _ => False) HI.out (ownFrom_pure _ _) HCC.out H00.out
     (fun e a' _ => ∃ v0 v1 v8 v25 v26 v27 v28 v29 v30 v31 v32 v33 v34 v35 v36 v37 v38, a' = { tmps := #[v0, v1, undef, undef, .pointer (some ⟨rb, 0, none⟩), .pointer (some ⟨x, 0, none⟩), .pointer (some ⟨t, 0, none⟩), .pointer (some ⟨mb, 0, none⟩), v8, u9, u10, u11, u12, u13, .pointer (some ⟨H, 0, none⟩), .pointer (some ⟨(H + 1), 0, none⟩), .string e.1, .string e.2, .tuple #[.pointer (some ⟨x, 0, none⟩), .pointer (some ⟨t, 0, none⟩)], .tuple #[.pointer (some ⟨x, 0, none⟩), .pointer (some ⟨t, 0, none⟩)], .pointer (some ⟨x, 0, none⟩), .pointer (some ⟨t, 0, none⟩), .pointer (some ⟨x, 0, none⟩), .bool false, .map (some m), v25, v26, v27, v28, v29, v30, v31, v32, v33, v34, v35, v36, v37, v38, u39, u40, u41, u42, u43, u44, u45, u46, u47, u48, u49, u50, u51, u52, u53, u54, u55, u56, u57, u58, u59, u60, u61, u62, u63, u64, u65, u66, u67, u68, u69, u70, u71, u72, u73, u74, u75, u76, u77, u78, u79, u80, u81, u82, u83, u84, u85, u86, u87, u88, u89, .pointer (some ⟨x, 0, none⟩), .func (.func 41) #[] #[.pointer (some ⟨(H + 1 + 1), 0, none⟩)], .string e.1, .string e.2, undef, undef, undef, undef, undef, undef, undef, undef, undef, undef, undef, undef, undef, undef, undef, undef, undef, undef, undef, undef, undef, undef, undef, undef, undef, undef, undef], defers := [] }) (fun _ _ _ _ _ _ h _ _ => h) ?assign ?body ?done ?stop)
    case assign =>
     intro l0 pre e W1 K hi hK
     unfold encE
     gi_wp2_with fail
     exact hK _ _ (KeepsFrom.refl _ _) (KpM.refl _ _ _) hi ⟨_, _, _, _, _, _, _, _, _, _, _, _, _, _, _, _, _, rfl⟩
    case body =>
     rintro l0 pre ⟨e1, e2⟩ a' W1 hl hrec ⟨hM, hlb, hnb, hpr⟩ ⟨v0, v1, v8, v25, v26, v27, v28, v29, v30, v31, v32, v33, v34, v35, v36, v37, v38, rfl⟩ hlen1
     have hmemE : (e1, e2) ∈ z0v s.lt s.Es := hlen1.subset (by simp)
     obtain rfl : e2 = ⟨#[118]⟩ := by
      unfold z0v at hmemE
      obtain ⟨n, _, hn⟩ := List.mem_flatMap.1 hmemE
      obtain ⟨e0, he0, he⟩ := List.mem_map.1 hn
      have := HPI.out.val n e0 he0
      have he2 := congrArg Prod.snd he
      simp only at he2
      rw [<- he2, this]
      rfl
     have hmb1 := (hM.block mb (lt_of_block HPL.out.mb) (fun hk => (HNG.out _ hk).2.2.2.1 rfl)).trans HPL.out.mb
     have hmp1 := HPL.out.mp.mod hM (fun hk => (HNG.out _ hk).2.1 rfl)
     have mb0 := cell_of hmb1 0
     have hlk : (Instr.lookup 28 (.map (some m)) (.string e1) false).run Tryz.prog W1 = .ok (.bool true) W1 := by
      have := z0q.lookup strKey Tryz.underlying28 (z := .bool false) (fun w => by kernel_rfl) hmp1 e1 false
      rw [HPI.out.want.get hmemE] at this
      exact this
     have hpl : pre.length + 1 <= 200 := by
      have h1 := hlen1.length_le
      have h2 := HPI.out.want.len HUP.out
      have h3 := HPI.out.wl
      simp at h1
      omega
     have l0' := cell_of hlb 0
     have lf := z0e hlb
     have n0' := cell_of hnb 0
     have nf := z0e hnb
     have HM := hid hM
     have HLB := hid hlb
     have HNB := hid hnb
     have HLEN := hid hlen1
     have HFIN : Hid (RoundEnd Wl.heap.size (H + 1 + 1) Mine (fun pre W => (Mod (fun k => k = H \/ k = H + 1) Wl W /\ (W).heap[H]? = some (.cells #[.string (lastP pre)] 9 (0, 0)) /\ (W).heap[H + 1]? = some (.cells #[.int .i64 ((pre).length : Nat)] 3 (0, 0)) /\ pre <+: z0v s.lt s.Es)) (fun _ _ => False) (pre ++ [(e1, (⟨#[118]⟩ : ByteArray))]) W1 Exit.normal { tmps := #[], defers := [] } ((W1.setCell ⟨H, 0, none⟩ (.string e1)).setCell ⟨H + 1, 0, none⟩ (.int .i64 ((pre.length : Int) + 1)))) := hid (by
      have hMa := Mod.setCell (S := (fun k => k = H \/ k = H + 1)) (p := ⟨H + 1, 0, none⟩) (Mod.setCell (S := (fun k => k = H \/ k = H + 1)) (p := ⟨H, 0, none⟩) (Mod.refl _ W1) (.inl (.inl rfl)) (.string e1)) (.inl (.inr rfl)) (.int .i64 ((pre.length : Int) + 1))
      have hs := HSZ.out
      have h1 := heap_set (i := 0) (v := .string e1) hlb
      have h2 := (Mod.setCell (S := (· = H)) (p := ⟨H, 0, none⟩) (Mod.refl _ W1) (.inl rfl) (.string e1)).block (H + 1) (lt_of_block hnb) (by omega)
      have h3 := heap_set (i := 0) (v := .int .i64 ((pre.length : Int) + 1)) (h2.trans hnb)
      have h4 := ((Mod.setCell (S := (· = H + 1)) (p := ⟨H + 1, 0, none⟩) (Mod.refl _ (W1.setCell ⟨H, 0, none⟩ (.string e1))) (.inl rfl) (.int .i64 ((pre.length : Int) + 1))).block H (lt_of_block h1) (by omega)).trans h1
      have hsW := hM.size
      refine ⟨⟨hMa.size, fun k o hk ho _ => (hMa.block k (lt_of_block ho) (by omega)).trans ho⟩, ⟨hMa.size, fun k o hk _ ho _ => (hMa.block k (lt_of_block ho) (by omega)).trans ho, fun k h => .inl ⟨h.1, by rcases h.1 with e | e <;> omega⟩⟩, hM.trans hMa (fun i _ h => h), ?_, ?_, hlen1⟩
      ·rw [lastP_app]; simpa using h4
      ·simpa using h3)
     have hcc : pre = [] \/ ∃ pre' a, pre = pre' ++ [a] := by
      rcases List.eq_nil_or_concat pre with h | ⟨pre', a, h⟩
      ·exact .inl h
      ·exact .inr ⟨pre', a, by rw [h, List.concat_eq_append]⟩
     rcases hcc with rfl | ⟨pre', a, rfl⟩
     ·clear hM hlb hnb hpr hlen1 hmemE hmb1 hmp1
      gi_wp2_with fail
      exact HFIN.out
     ·have hle : (Op.bytesLess e1.toList a.1.toList || e1.toList == a.1.toList) = false := leq_false (Up.last (a := a) (b := (e1, (⟨#[118]⟩ : ByteArray))) HUP.out hlen1)
      rw [lastP_app] at l0'
      have hwr : RowKit.wrap64 ((pre'.length : Int) + 1 + 1) = ((pre' ++ [a]).length : Int) + 1 := by
       have : pre'.length + 1 + 1 <= 200 := by simpa using hpl
       rw [IntWalk.wrap64_in _ (by omega)]
       simp
      have HWR := hid hwr
      clear hM hlb hnb hpr hlen1 hmemE hmb1 hmp1 hwr
      gi_wp2_with fail
      rw [HWR.out]
      exact HFIN.out
    case done =>
     rintro D xs W4 hD rfl ⟨hM, hlb, hnb, hpr⟩ hK
     have hmb1 := (hM.block mb (lt_of_block HPL.out.mb) (fun hk => (HNG.out _ hk).2.2.2.1 rfl)).trans HPL.out.mb
     have hrb1 := (hM.block rb (lt_of_block HPL.out.rb) (fun hk => (HNG.out _ hk).2.2.1 rfl)).trans HPL.out.rb
     have hmp1 := HPL.out.mp.mod hM (fun hk => (HNG.out _ hk).2.1 rfl)
     have mb0 := cell_of hmb1 0
     have n0' := cell_of hnb 0
     have hln : ∀ ty, (Builtin.len_ #[28] ty #[.map (some m)]).run Tryz.prog W4 = .ok (.int .i64 (z0v s.lt s.Es).length) W4 := fun ty => by
      have := z0q.len Tryz.underlying28 hmp1 ty
      rw [HPI.out.want.len HUP.out] at this
      exact this
     have HAW := hid (awake_any W4)
     have HRB1 := hid hrb1
     have HM := hid hM
     have HKK := hid hK
     clear hM hlb hnb hpr hK hmb1 hmp1 hrb1
     go_wp2_with (go_at_call 11; refine HAW.out.mono ?_; rintro e w5 ⟨rfl, hb5⟩; go_loud (have hr5 := z0b HRB1.out hb5 (lt_of_block HRB1.out); have rb0 := cell_of hr5 0; have rbf := z0e hr5; have HB5 := hid hb5; have HR5 := hid hr5; clear hb5 hr5))
     have hk5 := z0b HKK.out HB5.out (lt_of_block HKK.out)
     have hK' := (KeepsOthers.setCell w5 ⟨rb, 0, none⟩ (.bool true)).same D _ hk5 rfl
     refine ⟨by simp, .inl ⟨_, _, rfl, run_takeDeferred hK', ?_⟩⟩
     have hc5 := cell_kept (World.cell?_setCell_same' w5 ⟨rb, 0, none⟩ (.bool true) (by rw [rb0]; rfl)) (grownBy_putObj' _ D (.deferred none)) (fun r e => by cases e; exact ⟨_, hK', rfl⟩)
     have hg := grownBy_putObj' (w5.setCell ⟨rb, 0, none⟩ (.bool true)) D (.deferred none)
     have hMs := Mod.setCell (S := (fun k => w.heap.size <= k)) (p := ⟨rb, 0, none⟩) (Mod.refl _ w5) (.inl HPD.out.lo.1) (.bool true)
     have hMd : Mod (fun j => some D = some j) (w5.setCell ⟨rb, 0, none⟩ (.bool true)) ((w5.setCell ⟨rb, 0, none⟩ (.bool true)).putObj D (.deferred none)) := ⟨hg.os, hg.tape, hg.output, hg.size, fun k hk hn => hg.block k hk (fun e => hn e.symm)⟩
     have h1 := z2d HPL.out.md HM.out (fun k hk => (HNG.out k hk).2.2.2.2.2.2.2.2.2)
     have h2 := h1.trans (HB5.out.mono h1.size)
     have h3 := z2d h2 hMs (fun k hk => hk)
     have hsl := HPL.out.md.size
     refine ⟨.bool true, ?_, rfl, z2d h3 hMd (fun k e => by cases e; omega)⟩
     simp [results, Tryz.results3, go_sem, hc5]
    case stop =>
     rintro D pre W hD hp h _
     exact absurd h id
end Go.Proofs.YtgdmfledhhoedaaGreatDoor.T
namespace Go.Burg
open Go Go.RowKit Go.ChangeShapes Go.WideShapes
section
variable {H : Type} {enc : TypeId × Value -> H} {P : Program} {w : World} {base : Nat} {spare : Nat -> Bool} {held : Bool}
def FlatAt (w : World) (a : Option Addr) (len c : Nat) (good : List Value -> Prop) : Prop :=
 0 < len -> ∃ bl off, a = some ⟨bl, off, none⟩ /\ bl < w.heap.size /\ ∀ i, i < len -> ∃ cs : List Value, good cs /\ ∀ j, j < c -> w.cell? ⟨bl, off + i * c + j, none⟩ = cs[j]?
theorem open_flat {t e : TypeId} {a : Option Addr} {len cap : Nat} {d : DataW H} {p : List MemPlace} (ht : P.underlying t = some (.slice e)) (hc : 0 < P.cellsOf e) (good : List Value -> Prop)
 (hg : ∀ n cs x, DataW.trod enc P w base spare held n e cs = some x -> good cs) (h : DataW.Trod enc P w base spare held t (.slice a len cap) d p) : FlatAt w a len (P.cellsOf e) good := by
 intro hlen
 obtain ⟨fuel, hf⟩ := h
 rcases Deep.open_slice ht hf with ⟨hcs, _⟩ | ⟨ad, len', cap', m, n, D, Pl, hcs, _, hl, _, hm, _, hall⟩
 ·simp [Value.cells] at hcs
  omega
 ·simp [Value.cells] at hcs
  obtain ⟨rfl, rfl, rfl⟩ := hcs
  have hlm : len <= m := by rw [hm]; split <;> omega
  have hcell : ∀ i, i < len -> ∃ cs : List Value, good cs /\ cs.length = P.cellsOf e /\ ∀ j, j < P.cellsOf e -> w.cell? ((ad.add (i * P.cellsOf e)).add j) = cs[j]? := fun i hi => by
   obtain ⟨cs', h1, h2⟩ := hall i (by omega)
   obtain ⟨_, h3, h4⟩ := World.cells?_some h1
   exact ⟨cs', hg _ _ _ h2, h3, h4⟩
  obtain ⟨cs0, _, hl0, h0⟩ := hcell 0 hlen
  have h00 := h0 0 hc
  obtain ⟨v, hv⟩ : ∃ v, cs0[0]? = some v := ⟨cs0[0], by simp [hl0, hc]⟩
  rw [hv] at h00
  have hsp := World.cell?_spot h00
  have hlt := World.block_lt_of_cell? _ _ h00
  obtain ⟨bl, off, spot⟩ := ad
  have hspot : spot = none := by simpa [Addr.add] using hsp
  subst hspot
  refine ⟨bl, off, rfl, by simpa [Addr.add] using hlt, fun i hi => ?_⟩
  obtain ⟨cs, g1, _, g3⟩ := hcell i hi
  refine ⟨cs, g1, fun j hj => ?_⟩
  have := g3 j hj
  rw [Deep.add_add] at this
  rw [<- this]
  congr 1
  unfold Addr.add
  split
  ·rename_i hz
   have h1 : i * P.cellsOf e = 0 := by omega
   have h2 : j = 0 := by omega
   rw [h1, h2]
   simp
  ·simp [Nat.add_assoc]
end
end Go.Burg
namespace Go.Proofs.YtgdmfledhhoedaaGreatDoor
open Go Go.ChangeShapes Go.WideShapes Go.ChangeAt Go.RowKit Go.Burg Go.Joins Go.ChangeShapes
theorem own : ownKnob Tryz.prog.godebug = none := by kernel_rfl
theorem laidOut : laidOutB Tryz.prog = true := by kernel_rfl
theorem gRooms : Tryz.prog.globalNamed "burgage/node.rooms" = some 0 := by kernel_rfl
theorem tRooms : (Tryz.prog.globals[0]?).map (·.type) = some 212 := by kernel_rfl
abbrev roomsLaid : List (String × DataW Unit) := [("burgage/node.rooms", Rows.laid_burgage_node_rooms)]
theorem door_met (os : Os) (args : Array Value) : laidMetH Tryz.prog roomsLaid ((World.doorLaid Tryz.prog 400 os).forCall (fun _ _ => 0) ⟨#[], args, []⟩).memory :=
 laidMetH_of_parts3 (fuel := 8) (laidMet_of_run' 8 (by kernel_rfl) (by kernel_rfl)) (by kernel_rfl) (by kernel_rfl)
variable {held : Bool} {base n : Nat} {w : World}
theorem int_of_trod {H : Type} {enc : TypeId × Value -> H} {P : Program} {sp : Nat -> Bool} {fuel : Nat} {t : TypeId} {k : IntKind} {c : Value} {y : DataW H × List MemPlace}
 (ht : P.underlying t = some (.int k)) (h : DataW.trod enc P w base sp held fuel t [c] = some y) : ∃ n, c = .int k n /\ y = (.lit (.int k n), []) := by
 cases fuel with
 | zero => simp [DataW.trod] at h
 | succ fuel =>
  cases c <;> simp [DataW.trod, ht] at h
  rename_i k' n
  obtain ⟨⟨rfl, _⟩, rfl⟩ := h
  exact ⟨n, rfl, rfl⟩
theorem cInt6 : Tryz.prog.cellsOf 212 = 6 := by kernel_rfl
theorem cInt : Tryz.prog.cellsOf 3 = 1 := by kernel_rfl
theorem of_laid {W : World} (h : laidMetH Tryz.prog roomsLaid W) : RoomsAt W := by
 rw [MakeChecks.laidMetH_plain _ _ _ (by kernel_rfl)] at h
 obtain ⟨ps, ⟨g, t, cs, fuel, p, q, hg, ht, hvar, hd, _, _⟩, _⟩ := h
 obtain rfl := Option.some.inj (gRooms.symm.trans hg)
 obtain rfl := Option.some.inj (tRooms.symm.trans ht)
 have hcs : cs = #[.int .i64 0, .int .i64 0, .int .i64 4, .int .i64 16, .int .i64 48, .int .i64 256] := by
  obtain ⟨l⟩ := cs
  cases fuel with
  | zero => simp [DataW.trod] at hd
  | succ fuel =>
   simp only [DataW.trod, Tryz.underlying212, cInt6, cInt] at hd
   split at hd
   ·rename_i hl
    obtain ⟨c0, c1, c2, c3, c4, c5, rfl⟩ : ∃ c0 c1 c2 c3 c4 c5, l = [c0, c1, c2, c3, c4, c5] := by
     match l, hl with
     | [a, b, c, d, e, f], _ => exact ⟨a, b, c, d, e, f, rfl⟩
    have e : List.range 6 = [0, 1, 2, 3, 4, 5] := rfl
    rw [e] at hd
    simp only [Option.map_eq_some_iff, List.mapM_cons, List.mapM_nil, Option.bind_eq_bind, Option.bind_eq_some_iff, Option.pure_def, Option.some.injEq] at hd
    obtain ⟨xs, ⟨y0, h0, _, ⟨y1, h1, _, ⟨y2, h2, _, ⟨y3, h3, _, ⟨y4, h4, _, ⟨y5, h5, _, rfl, rfl⟩, rfl⟩, rfl⟩, rfl⟩, rfl⟩, rfl⟩, hx⟩ := hd
    obtain ⟨n0, rfl, rfl⟩ := int_of_trod Tryz.underlying3 h0
    obtain ⟨n1, rfl, rfl⟩ := int_of_trod Tryz.underlying3 h1
    obtain ⟨n2, rfl, rfl⟩ := int_of_trod Tryz.underlying3 h2
    obtain ⟨n3, rfl, rfl⟩ := int_of_trod Tryz.underlying3 h3
    obtain ⟨n4, rfl, rfl⟩ := int_of_trod Tryz.underlying3 h4
    obtain ⟨n5, rfl, rfl⟩ := int_of_trod Tryz.underlying3 h5
    simp [Rows.laid_burgage_node_rooms] at hx
    obtain ⟨⟨rfl, rfl, rfl, rfl, rfl, rfl⟩, _⟩ := hx
    rfl
   ·cases hd
 subst hcs
 refine ⟨fun k v hk => ?_⟩
 have hk6 : k < 6 := (List.getElem?_eq_some_iff.1 hk).1
 have hc := World.var?_cell hg hvar k
 rw [hc]
 rcases (by omega : k = 0 \/ k = 1 \/ k = 2 \/ k = 3 \/ k = 4 \/ k = 5) with rfl | rfl | rfl | rfl | rfl | rfl <;> cases hk <;> rfl
variable {cs : List Value}
theorem u8_good {H : Type} {enc : TypeId × Value -> H} {sp : Nat -> Bool} {x : DataW H × List MemPlace} (h : DataW.trod enc Tryz.prog w base sp held n 5 cs = some x) : ∃ k : Nat, cs = [.int .u8 (k : Nat)] /\ k <= 255 := by
 match cs, h with
 | [c], h =>
  cases n with
  | zero => simp [DataW.trod] at h
  | succ n =>
   cases c <;> simp [DataW.trod, Tryz.underlying5] at h
   rename_i k' z
   obtain ⟨⟨rfl, hw⟩, _⟩ := h
   have e1 : IntKind.u8.min = 0 := by decide
   have e2 : IntKind.u8.max = 255 := by decide
   simp [Lit.wf, e1, e2] at hw
   exact ⟨z.toNat, by rw [Int.toNat_of_nonneg (by omega)], by omega⟩
 | [], h =>
  cases n with
  | zero => simp [DataW.trod] at h
  | succ n => simp [DataW.trod, Tryz.underlying5] at h
 | a :: b :: r, h =>
  cases n with
  | zero => simp [DataW.trod] at h
  | succ n => simp [DataW.trod, Tryz.underlying5] at h
theorem str_good {H : Type} {enc : TypeId × Value -> H} {sp : Nat -> Bool} {x : DataW H × List MemPlace} (h : DataW.trod enc Tryz.prog w base sp held n 9 cs = some x) : ∃ s, cs = [.string s] := by
 match cs, h with
 | [c], h =>
  cases n with
  | zero => simp [DataW.trod] at h
  | succ n =>
   cases c <;> simp [DataW.trod, Tryz.underlying9] at h
   exact ⟨_, rfl⟩
 | [], h =>
  cases n with
  | zero => simp [DataW.trod] at h
  | succ n => simp [DataW.trod, Tryz.underlying9] at h
 | a :: b :: r, h =>
  cases n with
  | zero => simp [DataW.trod] at h
  | succ n => simp [DataW.trod, Tryz.underlying9] at h
theorem cU8 : Tryz.prog.cellsOf 5 = 1 := by kernel_rfl
theorem cStr : Tryz.prog.cellsOf 9 = 1 := by kernel_rfl
set_option maxRecDepth 100000 in
theorem paths_lifted (os : Os) (started : os.Started) (H : Type) (enc : TypeId × Value -> H) :
 ReturnsInHanded {} Tryz.checked os 3 .any (fun w args => (Rows.tablePathsSpec.pre enc Tryz.prog Tryz.f3 [] false w args /\ laidMetH Tryz.prog roomsLaid w) /\ sizedMet enc Tryz.prog Tryz.f3 (OpenSpec.ofChange Rows.tablePathsSpec) false w args)
  (Rows.tablePathsSpec.post enc Tryz.prog Tryz.f3 false true false false) := by
 refine returnsInHanded_of_change_and (C := Tryz.checked) (X := fun w _ => laidMetH Tryz.prog roomsLaid w) (fun _ _ _ hh h => h.of_heap hh) own started (by kernel_rfl) Tryz.func3
  (ChangeSpec.witness_shaped (enc := enc) (C := Tryz.checked) (os := os) (X := fun w _ => laidMetH Tryz.prog roomsLaid w) false (World.doorLaid Tryz.prog 400 os) #[.slice none 0 0, .slice none 0 0] 8 rfl (World.shaped_of_RefB (by kernel_rfl) (by kernel_rfl)) (by kernel_rfl) (by kernel_rfl) (by kernel_rfl) (door_met os _)) ?_
 intro W base args ds gs before hval0 hW _ _ hL _
 have hval : ∀ (j : Nat) t v, Tryz.f3.params[j]? = some t -> args[j]? = some v -> Value.okWide Tryz.prog W .any base t v := hval0
 have hW' := hW
 obtain ⟨p, q, hA0, hV, rfl, hfz, hnd⟩ := hW
 have hA : DataW.TrodAll enc Tryz.prog W 0 (fun _ => true) true Tryz.f3.params.toList args.toList ds p := hA0
 rw [Tryz.params3] at hA hval
 obtain ⟨v0, vs0, d0, ds0, p0, q0, hargs, rfl, rfl, h0, r0⟩ := trodAll_cons hA
 obtain ⟨v1, vs1, d1, ds1, p1, q1, rfl, rfl, rfl, h1, r1⟩ := trodAll_cons r0
 obtain ⟨rfl, rfl, rfl⟩ := trodAll_nil r1
 obtain rfl : args = #[v0, v1] := by cases args; simp_all
 obtain ⟨rfl, rfl⟩ := trodVars_none hV
 have k0 := h0
 have k1 := h1
 have lt0 : ∀ x ∈ p0, x.block < W.heap.size := by obtain ⟨m, hm⟩ := k0; exact DataW.trod_lt m _ _ _ hm
 have lt1 : ∀ x ∈ p1, x.block < W.heap.size := by obtain ⟨m, hm⟩ := k1; exact DataW.trod_lt m _ _ _ hm
 have hR := of_laid hL
 clear hA0 hval0
 obtain ⟨a0, len0, cap0, zs, rfl, hcells⟩ : ∃ (a0 : Option Addr) (len0 cap0 : Nat) (zs : Nat -> ByteArray), v0 = .slice a0 len0 cap0 /\ T.ElAt W a0 len0 (fun i => .string (zs i)) := by
  obtain ⟨a0, len0, cap0, rfl⟩ := okWide_slice Tryz.underlying22 (hval 0 22 v0 rfl rfl)
  have hF := open_flat Tryz.underlying22 (by rw [cStr]; omega) (fun cs => ∃ n, cs = [.string n]) (fun n cs x h => str_good h) h0
  rw [cStr] at hF
  by_cases hl : 0 < len0
  ·obtain ⟨bl, off, rfl, hbl, hall⟩ := hF hl
   refine ⟨_, _, _, fun k => match W.cell? ⟨bl, off + k, none⟩ with | some (.string n) => n | _ => ⟨#[]⟩, rfl, fun _ => ⟨bl, off, rfl, hbl, fun k hk => ?_⟩⟩
   obtain ⟨cs, ⟨n, rfl⟩, hj⟩ := hall k hk
   have := hj 0 (by omega)
   simp only [Nat.mul_one, Nat.add_zero] at this
   have e : W.cell? ⟨bl, off + k, none⟩ = some (.string n) := this
   simp only [e]
  ·exact ⟨_, _, _, fun _ => ⟨#[]⟩, rfl, fun h => absurd h hl⟩
 obtain ⟨a1, len1, cap1, ts, rfl, hts, hcells1⟩ : ∃ (a0 : Option Addr) (len0 cap0 : Nat) (zs : Nat -> Nat), v1 = .slice a0 len0 cap0 /\ (∀ i, zs i <= 255) /\ T.ElAt W a0 len0 (fun i => .int .u8 (zs i : Nat)) := by
  obtain ⟨a0, len0, cap0, rfl⟩ := okWide_slice Tryz.underlying23 (hval 1 23 v1 rfl rfl)
  have hF := open_flat Tryz.underlying23 (by rw [cU8]; omega) (fun cs => ∃ n : Nat, cs = [.int .u8 (n : Nat)] /\ n <= 255) (fun n cs x h => u8_good h) h1
  rw [cU8] at hF
  by_cases hl : 0 < len0
  ·obtain ⟨bl, off, rfl, hbl, hall⟩ := hF hl
   refine ⟨_, _, _, fun k => match W.cell? ⟨bl, off + k, none⟩ with | some (.int _ n) => min n.toNat 255 | _ => 0, rfl, fun i => ?_, fun _ => ⟨bl, off, rfl, hbl, fun k hk => ?_⟩⟩
   ·dsimp only
    split
    ·exact Nat.min_le_right _ _
    ·omega
   ·obtain ⟨cs, ⟨n, rfl, hn⟩, hj⟩ := hall k hk
    have := hj 0 (by omega)
    simp only [Nat.mul_one, Nat.add_zero] at this
    have e : W.cell? ⟨bl, off + k, none⟩ = some (.int .u8 (n : Nat)) := this
    simp only [e]
    rw [Int.toNat_natCast, Nat.min_eq_left hn]
  ·exact ⟨_, _, _, fun _ => 0, rfl, fun _ => Nat.zero_le _, fun h => absurd h hl⟩
 refine (T.paths_any a0 a1 len0 cap0 len1 cap1 zs ts W hR hcells hcells1 hts).mono fun e W' ⟨he, bel⟩ => ?_
 subst he
 exact ⟨_, rfl, _, _, _, [], _, [], hW', trodAll_mk1 (shut_bool Tryz.underlying4 _), (trodAll_cons_mk (Below.trod laidOut (by kernel_rfl) (of_decide_eq_true (by kernel_rfl)) k0 bel lt0) (trodAll_cons_mk (Below.trod laidOut (by kernel_rfl) (of_decide_eq_true (by kernel_rfl)) k1 bel lt1) trodAll_mk0)), rfl, bel.frame _, fun h => by cases h⟩
theorem paths_over : Rows.TablePathsSaid :=
 OpenClaim.holds_of_wide 3 Tryz.f3 rfl rfl rfl rfl rfl rfl rfl ⟨rfl, rfl, rfl, rfl, rfl⟩ rfl rfl rfl rfl rfl (by kernel_rfl) Tryz.func3 (by kernel_rfl)
  (of_decide_eq_true (by kernel_rfl)) (by unfold Func.isWrapper; first | (rw [if_pos (by decide +kernel)]; kernel_rfl) | (rw [if_neg (by decide +kernel)]; exact ⟨rfl, rfl⟩))
  (fun os started H enc _ => paths_lifted os started H enc)
theorem paths_card_proved : Rows.TablePathsCardSaid :=
 Claim7.holds_tied_plain_at .later [] [.data] true (true, "6c81ff1b3244c8fd0224996d72260d9e417f34edb1c5e6365844a126dad94317") true
  paths_over (fun _ h => by cases h) (by kernel_rfl) (fun _ h => by cases h) tablePaths_row_tie rfl ⟨rfl, rfl⟩ (by kernel_rfl) rfl
  (fun f fn hf hfn => by
   obtain rfl : f = 3 := Option.some.inj ((show Tryz.prog.funcNamed "burgage/burgagelaw24.TablePaths" = some 3 by kernel_rfl).symm.trans hf) |>.symm
   obtain rfl : fn = Tryz.f3 := (Option.some.inj (Tryz.func3.symm.trans hfn)).symm
   exact ⟨by kernel_rfl, fun j t ht => by
    rw [Tryz.params3] at ht
    have hm : t ∈ [22, 23] := by simpa using Array.mem_of_getElem? ht
    have hall : ([22, 23].all fun u => !Tryz.prog.wantsStandIn u) = true := by kernel_rfl
    exact (show Tryz.prog.wantsStandIn t = false by simpa using List.all_eq_true.1 hall t hm)⟩)
  (by kernel_rfl)
end Go.Proofs.YtgdmfledhhoedaaGreatDoor
