/- TableNever: the walk. -/
import Derived.Test.YtiddojegcbpafaaV2
import Derived.Deep.CutRange
import Derived.Deep.CutBlock
namespace Go.Proofs.Ytiddojegcbpafaa.T
set_option maxRecDepth 8000
open Go.ChangeShapes Go.WideShapes Go.ChangeAt Go.RowKit Go.Burg Go.Joins
open Go.Burg.Lk
theorem rem4b {g : Int} (h : 0 ≤ g ∧ g ≤ 255) : g.tmod 4 = 0 ∨ g.tmod 4 = 1 ∨ g.tmod 4 = 2 ∨ g.tmod 4 = 3 := by
  obtain ⟨m, rfl⟩ : ∃ m : Nat, g = m := ⟨g.toNat, by omega⟩
  have : ((m : Int).tmod 4) = ((m % 4 : Nat) : Int) := rfl
  rw [this]
  omega
theorem ten1 {g : Int} (h : 0 ≤ g ∧ g ≤ 255) : ∃ n : Nat, 1 ≤ n ∧ n ≤ 4 ∧ wrap64 (1 + wrap64 (g.tmod 4)) = n := by
  obtain ⟨m, rfl⟩ : ∃ m : Nat, g = m := ⟨g.toNat, by omega⟩
  refine ⟨1 + m % 4, by omega, by omega, ?_⟩
  have : ((m : Int).tmod 4) = ((m % 4 : Nat) : Int) := rfl
  rw [this]
  unfold wrap64
  omega
set_option maxRecDepth 100000 in
set_option maxHeartbeats 40000000 in
theorem never_any (a : Option Addr) (len cap : Nat) (ds : Nat → Int × Int) (w : World) (hD : NDeedsAt w a len ds) :
    Calls Try.prog 4 #[.slice a len cap] w fun e w' => e = .returned (.bool true) ∧ Below w.heap.size w w' := by
  obtain ⟨it, hit, hz, hsz, hby⟩ := info_parts (P := Try.prog) (e := 35) (z := .agg #[.int .i64 0, .int .u32 0, .int .u8 0]) (size := 3) (bytes := 16) (by kernel_rfl)
  have HIT := hid (And.intro hit (And.intro hz (And.intro hsz hby)))
  have HD := hid hD
  clear hit hz hsz hby hD
  go_enter Try.func4, Try.ntmps4
  go_wp2_with fail
  refine (fresh_at 40 w (by omega) (by omega)).mono ?_
  rintro e w1 ⟨x, t, sb, sg, kb, km, rfl, hX, hT, hl, hx, hB⟩
  have h0 : NR w ⟨x, t, sb, sg, kb, km⟩ w1.heap.size 0 (.slice none 0 0) (.slice none 0 0) w1 :=
    ⟨_, _, _, [], [], NInv.start, by simp, by simp, by simp, ⟨⟨hX, hT, Nat.le_refl _, ⟨hX.lt, lt_of_block hT.ht, hT.hs.blt, hT.hs.glt, hT.hk.lt.1, hT.hk.lt.2⟩, ⟨hl.1, hl.2.2.2.1, hl.2.2.2.2.2, hB.size⟩, hx, hB⟩, World.ownsRow_nil _ _ _ _, World.ownsRow_nil _ _ _ _, Apart.nil _⟩⟩
  generalize w1.heap.size = base at h0
  have HR0 := hid h0
  clear h0 hX hT hl hx hB
  go_wp2_with fail
  go_loopw [5, 6, 7] (fun v5 v6 iv wr => ∃ k : Nat, k ≤ len ∧ k ≤ 200 ∧ iv = .int .i64 k ∧ NR w ⟨x, t, sb, sg, kb, km⟩ base k v5 v6 wr) (fun _ _ iv _ => 200 - (intOf iv).toNat)
  case atStart => exact ⟨0, Nat.zero_le _, by omega, rfl, HR0.out⟩
  case round =>
    clear HR0
    obtain ⟨k, hk, hk2, rfl, l, ls, L, lv, dd, hI, hlv, hdd, hlen, hS⟩ := hrel
    have HI := hid hI
    have HLV := hid hlv
    have HDD := hid hdd
    have HLN := hid hlen
    have HS0 := hid hS
    clear hI hlv hdd hlen
    by_cases hlt : k < len ∧ k < 200
    · obtain ⟨bl, off, rfl, hbl, ⟨d0, d1⟩, hok1, hok2⟩ := nd_facts HD.out hS.c.bel hlt.1
      obtain ⟨d, hdk⟩ : ∃ d, ds k = d := ⟨_, rfl⟩
      rw [hdk] at d0 d1 hok1 hok2
      obtain ⟨wh, tn⟩ := d
      simp only at d0 d1 hok1 hok2
      have HDK := hid hdk
      clear hdk
      have HLT := hid hlt
      have hc1 : decide ((k : Int) < len) = true := by simp; exact hlt.1
      have hc2 : decide ((k : Int) < 200) = true := by simp; omega
      have hlk : (k : Int) < len := by have := hlt.1; omega
      obtain ⟨n, hn1, hn4, en⟩ := ten1 hok2
      have hr4 := rem4b hok1
      clear hS hlt hok1 hok2
      go_upto_block 2 with fail
      rw [en]
      clear en
      go_cut [5, 9] from 24 to 145 (fun v5 ev wx => v5 = u5 ∧ ∃ l' ls' L', NInv (k + 1) l' ls' ∧ HS w ⟨x, t, sb, sg, kb, km⟩ base u5 u6 lv dd l' ls' L' wx ∧ (∀ h ∈ dd, Hd.Dead l' h) ∧ ((ev = .int .i64 0 ∧ wh.tmod 4 = 0 ∧ ∀ h ∈ lv, Hd.Live l' h) ∨ ((ev = .int .i64 5 ∨ ev = .int .i64 8) ∧ ∀ h ∈ lv, Hd.Live l' h) ∨ (ev = .int .i64 0 ∧ (wh.tmod 4 = 1 ∨ wh.tmod 4 = 2) ∧ ∀ h ∈ lv, (h.tn = n → Hd.Dead l' h) ∧ (h.tn ≠ n → Hd.Live l' h))))
      case first =>
        rcases hr4 with e4 | e4 | e4 | e4
        · as_aux_lemma =>
            cases hp : (l n).purse with
            | none =>
              have hps : (l n).purse.isSome = false := by rw [hp]; rfl
              obtain ⟨kk, c, hF, hck, hroom⟩ := HI.out.first (by omega)
              have hgc := HI.out.gls kk c hck
              have hgn := HI.out.gen n
              have hcis : c.is = false := by
                unfold Cel.room at hroom
                simp at hroom
                exact hroom.1
              have hkl : kk < 40 := by rw [← HI.out.len]; exact (List.getElem?_eq_some_iff.1 hck).1
              obtain ⟨r, hr1, hr2⟩ := mkRef kk (c.gen + 1) (by omega) (by omega)
              have HC := hid (create_new 0 0 wr HS0.out.c.tab HS0.out.c.tree HS0.out.c.ne hn1 (by omega) hp (by omega) hF hck hroom r hr1 hr2)
              have HN : Hid (∀ p : Nat, NInv (k + 1) (upd l n ⟨(l n).gen + 1, kk, c.gen + 1, some p⟩) (ls.set kk ⟨true, anchorN, c.gen + 1⟩)) := hid fun p => HI.out.create hn1 hn4 hps hck hcis
              have HPS := hid hps
              have E4 := hid e4
              clear hp hps hF hck hroom hgc hgn hcis hr1 hr2
              go_wp2_with (go_at_call 6; refine HC.out.mono ?_; rintro e w2 ⟨rfl, p, m, hX2, hT2, _, _, _, hM⟩)
              go_meet
              exact ⟨rfl, _, _, _, HN.out p, HS0.out.turn hM hX2 hT2, fun h hh => (HDD.out h hh).create HPS.out, .inl ⟨rfl, E4.out, fun h hh => (HLV.out h hh).create HPS.out⟩⟩
            | some p =>
              have HC := hid (create_twice 0 0 wr HS0.out.c.tab hn1 (by omega) hp)
              clear hp
              go_wp2_with (go_at_call 6; refine HC.out.mono ?_; rintro e w2 ⟨rfl, hB⟩)
              go_meet
              exact ⟨rfl, _, _, _, HI.out.mono (Nat.le_succ k), HS0.out.keep hB, HDD.out, .inr (.inl ⟨.inr rfl, HLV.out⟩)⟩
        · as_aux_lemma =>
            cases hp : (l n).purse with
            | none =>
              have HC := hid (remove_none wr HS0.out.c.tab hn1 (by omega) hp)
              clear hp
              go_wp2_with (go_at_call 11; refine HC.out.mono ?_; rintro e w2 ⟨rfl, hB⟩)
              go_meet
              exact ⟨rfl, _, _, _, HI.out.mono (Nat.le_succ k), HS0.out.keep hB, HDD.out, .inr (.inl ⟨.inl rfl, HLV.out⟩)⟩
            | some p =>
              have hps : (l n).purse.isSome = true := by rw [hp]; rfl
              obtain ⟨_, _, _, ii, hsl, hli⟩ := HI.out.anc n hps
              have hil : ii < 40 := by rw [← HI.out.len]; exact (List.getElem?_eq_some_iff.1 hli).1
              have hga := HI.out.gls ii _ hli
              obtain ⟨r, hr1, hr2⟩ := mkRef ii (l n).agen (by omega) (by simp only at hga; omega)
              have HC := hid (remove_at (c := ⟨true, anchorN, (l n).agen⟩) wr HS0.out.c.tab HS0.out.c.tree HS0.out.c.ne hn1 (by omega) hp hsl ⟨rfl, hli, rfl, rfl⟩ rfl rfl r hr1 hr2)
              have HN := hid ((HI.out.remove hps hsl).mono (Nat.le_succ k))
              have E4 := hid e4
              clear hp hps hsl hli hga hr1 hr2
              go_wp2_with (go_at_call 11; refine HC.out.mono ?_; rintro e w2 ⟨rfl, hX2, hT2, hM⟩)
              go_meet
              exact ⟨rfl, _, _, _, HN.out, HS0.out.turn hM hX2 hT2, fun h hh => (HDD.out h hh).remove, .inr (.inr ⟨rfl, .inl E4.out, fun h hh => ⟨(HLV.out h hh).removed, (HLV.out h hh).remove⟩⟩)⟩
        · as_aux_lemma =>
            cases hp : (l n).purse with
            | none =>
              have HC := hid (revoke_none wr HS0.out.c.tab hn1 (by omega) hp)
              clear hp
              go_wp2_with (go_at_call 12; refine HC.out.mono ?_; rintro e w2 ⟨rfl, rfl⟩)
              go_meet
              exact ⟨rfl, _, _, _, HI.out.mono (Nat.le_succ k), HS0.out, HDD.out, .inr (.inl ⟨.inl rfl, HLV.out⟩)⟩
            | some p =>
              have hgn := HI.out.gen n
              have HC := hid (revoke_at wr HS0.out.c.tab hn1 (by omega) hp (by omega))
              have HN := hid (HI.out.revoke (n := n))
              have E4 := hid e4
              clear hp hgn
              go_wp2_with (go_at_call 12; refine HC.out.mono ?_; rintro e w2 ⟨rfl, hX2, hM⟩)
              go_meet
              have hM2 : Mod (COwn x sg km) wr w2 := hM.mono fun _ _ h => .inl h
              have ne := HS0.out.c.ne
              simp only at ne
              exact ⟨rfl, _, _, _, HN.out, HS0.out.turn hM2 hX2 (HS0.out.c.tree.mod hM (fun e => ne.1 e.symm) (fun e => ne.2.1 e.symm) (fun e => ne.2.2.1 e.symm) (fun e => ne.2.2.2.1 e.symm) (fun e => ne.2.2.2.2 e.symm)), fun h hh => (HDD.out h hh).revoke, .inr (.inr ⟨rfl, .inr E4.out, fun h hh => ⟨(HLV.out h hh).revoked, (HLV.out h hh).revoke⟩⟩)⟩
        · as_aux_lemma =>
            have hq1 : 1 ≤ 1 + (k : Int) % 7 := by omega
            have hq2 : 1 + (k : Int) % 7 ≤ 7 := by omega
            cases hp : (l n).purse with
            | none =>
              have HC := hid (issue_none (1 + (k : Int) % 7) wr HS0.out.c.tab hn1 (by omega) hp hq1 hq2)
              clear hp hq1 hq2
              go_wp2_with (go_at_call 7; refine HC.out.mono ?_; rintro e w2 ⟨rfl, hB⟩; have HB2 := hid (HS0.out.keep hB); clear hB)
              go_roundw
              case rel => exact ⟨k + 1, by have := HLT.out; omega, by have := HLT.out; omega, by go_num, l, ls, L, lv, dd, HI.out.mono (Nat.le_succ k), HLV.out, HDD.out, by have := HLN.out; omega, HB2.out.alloc _⟩
              case measure => have := HLT.out; simp [intOf]; omega
            | some p =>
              have hps : (l n).purse.isSome = true := by rw [hp]; rfl
              have HC := hid (Issue_at (p := p) (1 + (k : Int) % 7) wr HS0.out.c.tab hn1 (by omega) hp hq1 hq2)
              have HLI : Hid (Hd.Live l ⟨n, (l n).gen, 1 + (k : Int) % 7⟩) := hid (HI.out.issue hps hq1 hq2)
              have hlen0 := HLN.out
              clear hp hps hq1 hq2
              generalize hge : (l n).gen = ge at HC HLI
              clear hge
              go_wp2_with (first | (go_at_call 7; refine HC.out.mono ?_; rintro e w2 ⟨rfl, hB⟩; have HB2 := hid (((HS0.out.keep hB).alloc (.cells #[.int .i64 n, .int .u32 ge, .int .u8 (1 + (k : Int) % 7)] 35 (0, 0))).alloc (.cells #[.int .i64 n, .int .u32 ge, .int .u8 (1 + (k : Int) % 7)] 35 (0, 0))); have hs1 : (w2.alloc (.cells #[.int .i64 n, .int .u32 ge, .int .u8 (1 + (k : Int) % 7)] 35 (0, 0))).heap.size = w2.heap.size + 1 := (by simp); have hN := heap_new (w2.alloc (.cells #[.int .i64 n, .int .u32 ge, .int .u8 (1 + (k : Int) % 7)] 35 (0, 0))) (.cells #[.int .i64 n, .int .u32 ge, .int .u8 (1 + (k : Int) % 7)] 35 (0, 0)); rw [hs1] at hN; have HW := hid (news3 _ _ _ _ _ _ hN); clear hB hN hs1) | (at_builtin; go_loud (refine wpList_append_own_at _ rfl (.tmp 60) (.tmp 62) 57 rfl base 35 it _ 3 16 Try.underlying57 HIT.out.1 HIT.out.2.1 HIT.out.2.2.1 HIT.out.2.2.2 rfl (by decide) _ lv.length (hcells lv) rfl HB2.out.r5 ⟨w2.heap.size + 1, 0, none⟩ 1 1 [.int .i64 n, .int .u32 ge, .int .u8 (1 + (k : Int) % 7)] rfl rfl HW.out (by simp [Value.oneCell']) (by simp only [maxLen]; omega) (by omega) HB2.out.c.ge ?_)))
              intro v7 w7 hO7 hgr7 _ hl7
              have H8 := hid (HB2.out.grow5 (n := ⟨n, ge, 1 + (k : Int) % 7⟩) hO7 hgr7 (by simpa using hl7))
              clear hO7 hgr7 hl7 HB2 HW
              go_wp2_with fail
              go_roundw
              case rel => exact ⟨k + 1, by have := HLT.out; omega, by have := HLT.out; omega, by go_num, l, ls, L, _, dd, HI.out.mono (Nat.le_succ k), fun h hh => (List.mem_append.1 hh).elim (HLV.out h) (fun h1 => by rw [List.mem_singleton.1 h1]; exact HLI.out), HDD.out, by rw [List.length_append]; simp only [List.length_cons, List.length_nil]; omega, H8.out⟩
              case measure => have := HLT.out; simp [intOf]; omega
      case rest =>
        obtain ⟨rfl, l', ls', L', hI', hS', hdd', hcase⟩ := hcut
        have HI' := hid hI'
        have HD' := hid hdd'
        clear hI' hdd' d0 d1 hr4
        obtain ⟨bl2, off2, hbe, _, ⟨d0, d1⟩, hok1, _⟩ := nd_facts HD.out hS'.c.bel HLT.out.1
        simp only [Option.some.injEq, Addr.mk.injEq, and_true] at hbe
        obtain ⟨rfl, rfl⟩ := hbe
        rw [HDK.out] at d0 d1 hok1
        simp only at d0 d1 hok1
        rcases hcase with ⟨rfl, e4, hl'⟩ | ⟨he, hl'⟩ | ⟨rfl, e4, hl'⟩
        · as_aux_lemma =>
            have HL' := hid hl'
            have HS' := hid hS'
            clear hl' hS' hok1
            go_wp2_with fail
            go_roundw
            case rel => exact ⟨k + 1, by have := HLT.out; omega, by have := HLT.out; omega, by go_num, l', ls', L', lv, dd, HI'.out, HL'.out, HD'.out, by have := HLN.out; omega, HS'.out⟩
            case measure => have := HLT.out; simp [intOf]; omega
        · as_aux_lemma =>
            have HL' := hid hl'
            have HS' := hid hS'
            clear hl' hS' hok1
            rcases he with rfl | rfl
            all_goals
              go_wp2_with fail
              go_roundw
              case rel => exact ⟨k + 1, by have := HLT.out; omega, by have := HLT.out; omega, by go_num, l', ls', L', lv, dd, HI'.out, HL'.out, HD'.out, by have := HLN.out; omega, HS'.out⟩
              case measure => have := HLT.out; simp [intOf]; omega
        · have HL' := hid hl'
          have HS' := hid hS'
          obtain ⟨a5, c5, rfl, f5⟩ := row_form hS'.r5
          have F5 := hid f5
          have e4b : (wh.tmod 4 == 0) = false := by rcases e4 with e | e <;> rw [e] <;> rfl
          have e4c : ¬ wh.tmod 4 = 0 := by rcases e4 with e | e <;> rw [e] <;> omega
          clear hl' hS' hok1 f5 e4
          have HTH := hid HS'.out.three
          go_wp2_with fail
          clear d0 d1 e4b e4c
          go_loopw [6, 12, 13] (fun v6 v12 iv wy => ∃ j : Nat, j ≤ lv.length ∧ iv = .int .i64 j ∧ HS3 w ⟨x, t, sb, sg, kb, km⟩ base (.slice a5 lv.length c5) v6 v12 lv (dd ++ ofT n lv j) (notT n lv j) l' ls' L' wy) (fun _ _ iv _ => lv.length - (intOf iv).toNat)
          case atStart => exact ⟨0, Nat.zero_le _, rfl, by simpa [ofT, notT] using HTH.out⟩
          case round =>
            clear HTH
            obtain ⟨j, hj, rfl, hS3⟩ := hrel
            have H3 := hid hS3
            clear hS3
            have hlen1 : (ofT n lv j).length ≤ lv.length := ofT_len
            have hlen2 : (notT n lv j).length ≤ lv.length := notT_len
            have hlen0 := HLN.out
            by_cases hlj : j < lv.length
            · obtain ⟨h, hh⟩ : ∃ h, lv[j]? = some h := ⟨lv[j], by simp [hlj]⟩
              obtain ⟨g5, rfl, h51, h52⟩ := F5.out (by omega)
              unfold maxLen at h52
              obtain ⟨q0, q1, q2⟩ := hrow H3.out.r5 hh
              have hN := heap_new wr (.cells #[.int .i64 h.tn, .int .u32 h.gn, .int .u8 h.rt] 35 (0, 0))
              have H7 := hid (H3.out.alloc (.cells #[.int .i64 h.tn, .int .u32 h.gn, .int .u8 h.rt] 35 (0, 0)))
              have HW := hid (news3 _ _ _ _ _ _ hN)
              have HH := hid hh
              clear hh hN
              by_cases ht : h.tn = n
              · as_aux_lemma =>
                  subst ht
                  have hto : ofT h.tn lv (j + 1) = ofT h.tn lv j ++ [h] := ofT_yes HH.out rfl
                  have htn : notT h.tn lv (j + 1) = notT h.tn lv j := notT_yes HH.out rfl
                  have HTO := hid hto
                  have HTN := hid htn
                  have hl3 : (dd ++ ofT h.tn lv j).length + 1 ≤ 1000 := by rw [List.length_append]; omega
                  clear hto htn
                  go_wp2_with (at_builtin; go_loud (refine wpList_append_own_at _ rfl (.tmp 110) (.tmp 115) 57 rfl base 35 it _ 3 16 Try.underlying57 HIT.out.1 HIT.out.2.1 HIT.out.2.2.1 HIT.out.2.2.2 rfl (by decide) _ (dd ++ ofT h.tn lv j).length (hcells (dd ++ ofT h.tn lv j)) rfl H7.out.r6 ⟨wr.heap.size, 0, none⟩ 1 1 [.int .i64 h.tn, .int .u32 h.gn, .int .u8 h.rt] rfl rfl HW.out (by simp [Value.oneCell']) (by simp only [maxLen]; omega) (by omega) H7.out.c.ge ?_))
                  intro v7 w7 hO7 hgr7 _ hl7
                  have H8 := hid (H7.out.grow6 (by rw [List.length_append]; exact hO7) hgr7 (by simpa using hl7))
                  clear hO7 hgr7 hl7 q0 q1 q2 H7 HW
                  go_wp2_with fail
                  go_roundw
                  case rel => exact ⟨j + 1, by omega, by go_num, by rw [HTO.out, HTN.out, ← List.append_assoc]; exact H8.out⟩
                  case measure => simp [intOf]; omega
              · as_aux_lemma =>
                  have hto : ofT n lv (j + 1) = ofT n lv j := ofT_no HH.out ht
                  have htn : notT n lv (j + 1) = notT n lv j ++ [h] := notT_no HH.out ht
                  have HTO := hid hto
                  have HTN := hid htn
                  have ht' : ¬ ((h.tn : Int) = n) := by omega
                  have hl3 : (notT n lv j).length + 1 ≤ 1000 := by omega
                  clear hto htn ht
                  go_wp2_with (at_builtin; go_loud (refine wpList_append_own_at _ rfl (.tmp 117) (.tmp 122) 57 rfl base 35 it _ 3 16 Try.underlying57 HIT.out.1 HIT.out.2.1 HIT.out.2.2.1 HIT.out.2.2.2 rfl (by decide) _ (notT n lv j).length (hcells (notT n lv j)) rfl H7.out.r12 ⟨wr.heap.size, 0, none⟩ 1 1 [.int .i64 h.tn, .int .u32 h.gn, .int .u8 h.rt] rfl rfl HW.out (by simp [Value.oneCell']) (by simp only [maxLen]; omega) (by omega) H7.out.c.ge ?_))
                  intro v7 w7 hO7 hgr7 _ hl7
                  have H8 := hid (H7.out.grow12 hO7 hgr7 (by simpa using hl7))
                  clear hO7 hgr7 hl7 q0 q1 q2 H7 HW
                  go_wp2_with fail
                  go_roundw
                  case rel => exact ⟨j + 1, by omega, by go_num, by rw [HTO.out, HTN.out]; exact H8.out⟩
                  case measure => simp [intOf]; omega
            · as_aux_lemma =>
                obtain rfl : j = lv.length := by omega
                have hdd2 : ∀ h ∈ dd ++ ofT n lv lv.length, Hd.Dead l' h := fun h hh => by
                  rcases List.mem_append.1 hh with h1 | h1
                  · exact HD'.out h h1
                  · exact (HL'.out h (mem_ofT h1).1).1 (mem_ofT h1).2
                have hlv2 : ∀ h ∈ notT n lv lv.length, Hd.Live l' h := fun h hh => (HL'.out h (mem_notT hh).1).2 (mem_notT hh).2
                have hlen3 : (notT n lv lv.length).length + (dd ++ ofT n lv lv.length).length ≤ k + 1 := by
                  have := both_len (n := n) (l := lv) (j := lv.length)
                  rw [List.length_append]; omega
                have HDD2 := hid hdd2
                have HLV2 := hid hlv2
                have HLN2 := hid hlen3
                have h2 := H3.out.two
                clear hdd2 hlv2 hlen1 hlen2 hlen3 hlen0 H3 F5 HD' HL' HLN HS' HLV HDD HS0 HI
                generalize dd ++ ofT n lv lv.length = D at *
                generalize notT n lv lv.length = V at *
                obtain ⟨a6, c6, rfl, f6⟩ := row_form h2.r6
                have F6 := hid f6
                have H2 := hid h2
                clear h2 f6
                obtain ⟨wx, hwx⟩ : ∃ wx : World, wx = wr := ⟨_, rfl⟩
                subst hwx
                go_wp2_with fail
                go_loopw [14] (fun iv wz => ∃ j : Nat, j ≤ D.length ∧ iv = .int .i64 j ∧ Below wx.heap.size wx wz) (fun iv _ => D.length - (intOf iv).toNat)
                case atStart => exact ⟨0, Nat.zero_le _, rfl, Below.refl _ _⟩
                case round =>
                  obtain ⟨j, hj, rfl, hB⟩ := hrel
                  have HB := hid hB
                  clear hB
                  by_cases hlj : j < D.length
                  · obtain ⟨h, hh⟩ : ∃ h, D[j]? = some h := ⟨D[j], by simp [hlj]⟩
                    obtain ⟨g6, rfl, h61, h62⟩ := F6.out (by omega)
                    unfold maxLen at h62
                    obtain ⟨q0, q1, q2⟩ := hrow (own_below H2.out.r6 HB.out) hh
                    have hbad := HDD2.out h (List.mem_of_getElem? hh)
                    have HG : Hid (∀ w1, Below wx.heap.size wx w1 → Calls Try.prog 13 #[.pointer (some ⟨x, 0, none⟩), .agg #[.int .i64 (h.tn : Int), .int .u32 h.gn, .int .u8 h.rt]] w1 fun e w' => e = .returned (.bool false) ∧ Below w1.heap.size w1 w') := hid fun w1 hw1 => by
                      have := Good_at h.tn h.gn h.rt w1 (H2.out.c.keep hw1).tab
                      rw [hbad.bad] at this
                      exact this
                    have HM : Hid (∀ w1, Below wx.heap.size wx w1 → Calls Try.prog 14 #[.pointer (some ⟨x, 0, none⟩), .agg #[.int .i64 (h.tn : Int), .int .u32 h.gn, .int .u8 h.rt], .int .i64 1] w1 fun e w' => e = .returned (.int .i64 11) ∧ Below w1.heap.size w1 w') := hid fun w1 hw1 => by
                      have := May_at h.tn h.gn h.rt 1 w1 (H2.out.c.keep hw1).tab
                      rw [hbad.may] at this
                      exact this
                    have HH := hid hh
                    clear hh hbad
                    go_wp2_with (first | (go_at_call 13; refine (HG.out _ HB.out).mono ?_; rintro e w4 ⟨rfl, hB4⟩; have HB4 := hid (below_chain HB.out hB4 HB.out.size); clear hB4 q0 q1 q2; obtain ⟨q0, q1, q2⟩ := hrow (own_below H2.out.r6 HB4.out) HH.out) | (go_at_call 14; refine (HM.out _ HB4.out).mono ?_; rintro e w5 ⟨rfl, hB5⟩; have HB5 := hid (below_chain HB4.out hB5 HB4.out.size); clear hB5))
                    go_roundw
                    case rel => exact ⟨j + 1, by omega, by go_num, HB5.out⟩
                    case measure => simp [intOf]; omega
                  · obtain rfl : j = D.length := by omega
                    go_wp2_with fail
                    go_roundw
                    case rel => exact ⟨k + 1, by have := HLT.out; omega, by have := HLT.out; omega, by go_num, l', ls', L', V, D, HI'.out, HLV2.out, HDD2.out, by have := HLN2.out; omega, H2.out.keep HB.out⟩
                    case measure => have := HLT.out; simp [intOf]; omega
    · obtain ⟨a5, c5, rfl, f5⟩ := row_form hS.r5
      obtain ⟨a6, c6, rfl, f6⟩ := row_form hS.r6
      have F5 := hid f5
      have F6 := hid f6
      clear hS f5 f6
      obtain ⟨wx, hwx⟩ : ∃ wx : World, wx = wr := ⟨_, rfl⟩
      subst hwx
      by_cases hkl : k < len
      · as_aux_lemma =>
          have hc1 : decide ((k : Int) < len) = true := by simp; exact hkl
          have hc2 : decide ((k : Int) < 200) = false := by simp; omega
          have hc3 : (k : Int) < len := by omega
          have hc4 : ¬ (k : Int) < 200 := by omega
          clear hlt
          go_wp2_with fail
          clear hc1 hc2 hc3 hc4
          go_loopw [15] (fun iv wy => ∃ j : Nat, j ≤ lv.length ∧ iv = .int .i64 j ∧ Below wx.heap.size wx wy) (fun iv _ => lv.length - (intOf iv).toNat)
          case atStart => exact ⟨0, Nat.zero_le _, rfl, Below.refl _ _⟩
          case round =>
            obtain ⟨j, hj, rfl, hB⟩ := hrel
            have HB := hid hB
            clear hB
            by_cases hlj : j < lv.length
            · obtain ⟨h, hh⟩ : ∃ h, lv[j]? = some h := ⟨lv[j], by simp [hlj]⟩
              obtain ⟨g5, rfl, h51, h52⟩ := F5.out (by omega)
              unfold maxLen at h52
              obtain ⟨q0, q1, q2⟩ := hrow (own_below HS0.out.r5 HB.out) hh
              have hgood := HLV.out h (List.mem_of_getElem? hh)
              have HG : Hid (∀ w1, Below wx.heap.size wx w1 → Calls Try.prog 13 #[.pointer (some ⟨x, 0, none⟩), .agg #[.int .i64 (h.tn : Int), .int .u32 h.gn, .int .u8 h.rt]] w1 fun e w' => e = .returned (.bool true) ∧ Below w1.heap.size w1 w') := hid fun w1 hw1 => by
                have := Good_at h.tn h.gn h.rt w1 (HS0.out.c.keep hw1).tab
                rw [hgood.good] at this
                exact this
              clear hh hgood
              go_wp2_with (go_at_call 13; refine (HG.out _ HB.out).mono ?_; rintro e w4 ⟨rfl, hB4⟩; have HB4 := hid (below_chain HB.out hB4 HB.out.size); clear hB4 q0 q1 q2)
              go_roundw
              case rel => exact ⟨j + 1, by omega, by go_num, HB4.out⟩
              case measure => simp [intOf]; omega
            · obtain rfl : j = lv.length := by omega
              go_wp2_with fail
              obtain ⟨wv, hwv⟩ : ∃ wv : World, wv = wr := ⟨_, rfl⟩
              subst hwv
              have HS1 := hid (HS0.out.keep HB.out)
              clear HB hlj hj
              go_loopw [16, 17] (fun iv _ wy => ∃ j : Nat, j ≤ dd.length ∧ iv = .int .i64 j ∧ Below wv.heap.size wv wy) (fun iv _ _ => dd.length - (intOf iv).toNat)
              case atStart => exact ⟨0, Nat.zero_le _, rfl, Below.refl _ _⟩
              case round =>
                obtain ⟨j, hj, rfl, hB⟩ := hrel
                have HB := hid hB
                clear hB
                by_cases hlj : j < dd.length
                · obtain ⟨h, hh⟩ : ∃ h, dd[j]? = some h := ⟨dd[j], by simp [hlj]⟩
                  obtain ⟨g6, rfl, h61, h62⟩ := F6.out (by omega)
                  unfold maxLen at h62
                  obtain ⟨q0, q1, q2⟩ := hrow (own_below HS1.out.r6 HB.out) hh
                  have hbad := HDD.out h (List.mem_of_getElem? hh)
                  have HG : Hid (∀ w1, Below wv.heap.size wv w1 → Calls Try.prog 13 #[.pointer (some ⟨x, 0, none⟩), .agg #[.int .i64 (h.tn : Int), .int .u32 h.gn, .int .u8 h.rt]] w1 fun e w' => e = .returned (.bool false) ∧ Below w1.heap.size w1 w') := hid fun w1 hw1 => by
                    have := Good_at h.tn h.gn h.rt w1 (HS1.out.c.keep hw1).tab
                    rw [hbad.bad] at this
                    exact this
                  have HM : Hid (∀ (b : Nat) w1, w1.heap[b]? = some (GBlk ⟨x, h.tn, h.gn, h.rt, 2, none, 0, 0, 0⟩) → Below wv.heap.size wv w1 → Calls Try.prog 91 #[.pointer (some ⟨b, 0, none⟩), .agg #[.int .i64 0, .int .i64 0]] w1 fun e w' => e = .returned (.int .i64 11) ∧ Below w1.heap.size w1 w') := hid fun b w1 hb hw1 => gReserve_bad 0 0 w1 hb (HS1.out.c.keep hw1).tab rfl (hbad.may 2)
                  have HH := hid hh
                  clear hh hbad
                  have hmReserve : ∀ (w : World) (b : Nat), (method 281 84 (.pointer (some ⟨b, 0, none⟩)) "Reserve").run Try.prog w = .ok (91, .pointer (some ⟨b, 0, none⟩)) w := fun w b => by kernel_rfl
                  go_wp2_with (go_at_call 8; refine (Gate_at x h.tn h.gn h.rt 2 _).mono ?_; rintro e w4 ⟨b, rfl, hG4, _, hB4⟩; have HB4 := hid (below_chain HB.out hB4 HB.out.size); have HG4 := hid hG4; clear hB4 hG4 q0 q1 q2; obtain ⟨q0, q1, q2⟩ := hrow (own_below HS1.out.r6 HB4.out) HH.out)
                  go_wp2_with (first | (go_at_call 13; refine (HG.out _ HB4.out).mono ?_; rintro e w5 ⟨rfl, hB5⟩; have HB5 := hid (below_chain HB4.out hB5 HB4.out.size); have HG5 := hid (blk_below HG4.out hB5 (lt_of_block HG4.out)); clear hB5) | (go_at_call 91; refine (HM.out b _ HG5.out HB5.out).mono ?_; rintro e w6 ⟨rfl, hB6⟩; have HB6 := hid (below_chain HB5.out hB6 HB5.out.size); clear hB6))
                  go_roundw
                  case rel => exact ⟨j + 1, by omega, by go_num, HB6.out⟩
                  case measure => simp [intOf]; omega
                · obtain rfl : j = dd.length := by omega
                  have HE := hid (below_chain HS1.out.c.bel HB.out HS1.out.c.bel.size)
                  clear HB
                  go_wp2_with fail
                  refine (awake_any _).mono ?_
                  rintro e wz ⟨rfl, hB⟩
                  go_wp2
                  go_ret
                  exact ⟨rfl, below_chain HE.out hB HE.out.size⟩
      · as_aux_lemma =>
          have hc1 : decide ((k : Int) < len) = false := by simp; omega
          have hc3 : ¬ (k : Int) < len := by omega
          clear hlt
          go_wp2_with fail
          clear hc1 hc3
          go_loopw [15] (fun iv wy => ∃ j : Nat, j ≤ lv.length ∧ iv = .int .i64 j ∧ Below wx.heap.size wx wy) (fun iv _ => lv.length - (intOf iv).toNat)
          case atStart => exact ⟨0, Nat.zero_le _, rfl, Below.refl _ _⟩
          case round =>
            obtain ⟨j, hj, rfl, hB⟩ := hrel
            have HB := hid hB
            clear hB
            by_cases hlj : j < lv.length
            · obtain ⟨h, hh⟩ : ∃ h, lv[j]? = some h := ⟨lv[j], by simp [hlj]⟩
              obtain ⟨g5, rfl, h51, h52⟩ := F5.out (by omega)
              unfold maxLen at h52
              obtain ⟨q0, q1, q2⟩ := hrow (own_below HS0.out.r5 HB.out) hh
              have hgood := HLV.out h (List.mem_of_getElem? hh)
              have HG : Hid (∀ w1, Below wx.heap.size wx w1 → Calls Try.prog 13 #[.pointer (some ⟨x, 0, none⟩), .agg #[.int .i64 (h.tn : Int), .int .u32 h.gn, .int .u8 h.rt]] w1 fun e w' => e = .returned (.bool true) ∧ Below w1.heap.size w1 w') := hid fun w1 hw1 => by
                have := Good_at h.tn h.gn h.rt w1 (HS0.out.c.keep hw1).tab
                rw [hgood.good] at this
                exact this
              clear hh hgood
              go_wp2_with (go_at_call 13; refine (HG.out _ HB.out).mono ?_; rintro e w4 ⟨rfl, hB4⟩; have HB4 := hid (below_chain HB.out hB4 HB.out.size); clear hB4 q0 q1 q2)
              go_roundw
              case rel => exact ⟨j + 1, by omega, by go_num, HB4.out⟩
              case measure => simp [intOf]; omega
            · obtain rfl : j = lv.length := by omega
              go_wp2_with fail
              obtain ⟨wv, hwv⟩ : ∃ wv : World, wv = wr := ⟨_, rfl⟩
              subst hwv
              have HS1 := hid (HS0.out.keep HB.out)
              clear HB hlj hj
              go_loopw [16, 17] (fun iv _ wy => ∃ j : Nat, j ≤ dd.length ∧ iv = .int .i64 j ∧ Below wv.heap.size wv wy) (fun iv _ _ => dd.length - (intOf iv).toNat)
              case atStart => exact ⟨0, Nat.zero_le _, rfl, Below.refl _ _⟩
              case round =>
                obtain ⟨j, hj, rfl, hB⟩ := hrel
                have HB := hid hB
                clear hB
                by_cases hlj : j < dd.length
                · obtain ⟨h, hh⟩ : ∃ h, dd[j]? = some h := ⟨dd[j], by simp [hlj]⟩
                  obtain ⟨g6, rfl, h61, h62⟩ := F6.out (by omega)
                  unfold maxLen at h62
                  obtain ⟨q0, q1, q2⟩ := hrow (own_below HS1.out.r6 HB.out) hh
                  have hbad := HDD.out h (List.mem_of_getElem? hh)
                  have HG : Hid (∀ w1, Below wv.heap.size wv w1 → Calls Try.prog 13 #[.pointer (some ⟨x, 0, none⟩), .agg #[.int .i64 (h.tn : Int), .int .u32 h.gn, .int .u8 h.rt]] w1 fun e w' => e = .returned (.bool false) ∧ Below w1.heap.size w1 w') := hid fun w1 hw1 => by
                    have := Good_at h.tn h.gn h.rt w1 (HS1.out.c.keep hw1).tab
                    rw [hbad.bad] at this
                    exact this
                  have HM : Hid (∀ (b : Nat) w1, w1.heap[b]? = some (GBlk ⟨x, h.tn, h.gn, h.rt, 2, none, 0, 0, 0⟩) → Below wv.heap.size wv w1 → Calls Try.prog 91 #[.pointer (some ⟨b, 0, none⟩), .agg #[.int .i64 0, .int .i64 0]] w1 fun e w' => e = .returned (.int .i64 11) ∧ Below w1.heap.size w1 w') := hid fun b w1 hb hw1 => gReserve_bad 0 0 w1 hb (HS1.out.c.keep hw1).tab rfl (hbad.may 2)
                  have HH := hid hh
                  clear hh hbad
                  have hmReserve : ∀ (w : World) (b : Nat), (method 281 84 (.pointer (some ⟨b, 0, none⟩)) "Reserve").run Try.prog w = .ok (91, .pointer (some ⟨b, 0, none⟩)) w := fun w b => by kernel_rfl
                  go_wp2_with (go_at_call 8; refine (Gate_at x h.tn h.gn h.rt 2 _).mono ?_; rintro e w4 ⟨b, rfl, hG4, _, hB4⟩; have HB4 := hid (below_chain HB.out hB4 HB.out.size); have HG4 := hid hG4; clear hB4 hG4 q0 q1 q2; obtain ⟨q0, q1, q2⟩ := hrow (own_below HS1.out.r6 HB4.out) HH.out)
                  go_wp2_with (first | (go_at_call 13; refine (HG.out _ HB4.out).mono ?_; rintro e w5 ⟨rfl, hB5⟩; have HB5 := hid (below_chain HB4.out hB5 HB4.out.size); have HG5 := hid (blk_below HG4.out hB5 (lt_of_block HG4.out)); clear hB5) | (go_at_call 91; refine (HM.out b _ HG5.out HB5.out).mono ?_; rintro e w6 ⟨rfl, hB6⟩; have HB6 := hid (below_chain HB5.out hB6 HB5.out.size); clear hB6))
                  go_roundw
                  case rel => exact ⟨j + 1, by omega, by go_num, HB6.out⟩
                  case measure => simp [intOf]; omega
                · obtain rfl : j = dd.length := by omega
                  have HE := hid (below_chain HS1.out.c.bel HB.out HS1.out.c.bel.size)
                  clear HB
                  go_wp2_with fail
                  refine (awake_any _).mono ?_
                  rintro e wz ⟨rfl, hB⟩
                  go_wp2
                  go_ret
                  exact ⟨rfl, below_chain HE.out hB HE.out.size⟩
end Go.Proofs.Ytiddojegcbpafaa.T
