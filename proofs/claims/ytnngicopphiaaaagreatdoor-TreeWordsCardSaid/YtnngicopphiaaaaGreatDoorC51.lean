/- TreeWords holds: for every input the law returns true, and its argument reads behind the call as it read before. Condition: the variable burgage/node.rooms starts as the text lays it, which the tied card ties to the text. -/
import Derived.Test.YtnngicopphiaaaaGreatDoorC50
import Derived.Test.YtnngicopphiaaaaGreatDoorTie
import Derived.Test.YtnngicopphiaaaaGreatDoorCards
import Derived.ProofKit
import Derived.LaidMore
import Derived.OpenShut
import Derived.Stop.Joined
import Derived.SevenTiedAt
import Derived.ChangeSlices
namespace Go.Proofs.YtnngicopphiaaaaGreatDoor
open Go Go.ChangeShapes Go.WideShapes Go.ChangeAt Go.RowKit Go.Burg Go.Joins Go.ChangeShapes
theorem own : ownKnob Tryz.prog.godebug = none := by kernel_rfl
theorem laidOut : laidOutB Tryz.prog = true := by kernel_rfl
theorem gRooms : Tryz.prog.globalNamed "burgage/node.rooms" = some 0 := by kernel_rfl
theorem tRooms : (Tryz.prog.globals[0]?).map (·.type) = some 172 := by kernel_rfl
abbrev roomsLaid : List (String × DataW Unit) := [("burgage/node.rooms", Rows.laid_burgage_node_rooms)]
theorem door_met (os : Os) (args : Array Value) : laidMetH Tryz.prog roomsLaid ((World.doorLaid Tryz.prog 400 os).forCall (fun _ _ => 0) ⟨#[], args, []⟩).memory :=
  laidMetH_of_parts3 (fuel := 8) (laidMet_of_run' 8 (by kernel_rfl) (by kernel_rfl)) (by kernel_rfl) (by kernel_rfl)
theorem int_of_trod {H : Type} {enc : TypeId × Value → H} {P : Program} {w : World} {base : Nat} {sp : Nat → Bool} {held : Bool} {fuel : Nat} {t : TypeId} {k : IntKind} {c : Value} {y : DataW H × List MemPlace}
    (ht : P.underlying t = some (.int k)) (h : DataW.trod enc P w base sp held fuel t [c] = some y) : ∃ n, c = .int k n ∧ y = (.lit (.int k n), []) := by
  cases fuel with
  | zero => simp [DataW.trod] at h
  | succ fuel =>
    cases c <;> simp [DataW.trod, ht] at h
    rename_i k' n
    obtain ⟨⟨rfl, _⟩, rfl⟩ := h
    exact ⟨n, rfl, rfl⟩
theorem int_good {H : Type} {enc : TypeId × Value → H} {w : World} {base n : Nat} {sp : Nat → Bool} {held : Bool} {cs : List Value} {x : DataW H × List MemPlace} (h : DataW.trod enc Tryz.prog w base sp held n 3 cs = some x) : ∃ k, cs = [.int .i64 k] := by
  match cs, h with
  | [c], h =>
    obtain ⟨k, rfl, _⟩ := int_of_trod Tryz.underlying3 h
    exact ⟨k, rfl⟩
  | [], h =>
    cases n with
    | zero => simp [DataW.trod] at h
    | succ n => simp [DataW.trod, Tryz.underlying3] at h
  | a :: b :: r, h =>
    cases n with
    | zero => simp [DataW.trod] at h
    | succ n => simp [DataW.trod, Tryz.underlying3] at h
theorem cInt6 : Tryz.prog.cellsOf 172 = 6 := by kernel_rfl
theorem cInt : Tryz.prog.cellsOf 3 = 1 := by kernel_rfl
theorem of_laid {W : World} (h : laidMetH Tryz.prog roomsLaid W) : RoomsAt W := by
  rw [MakeChecks.laidMetH_plain _ _ _ (by kernel_rfl)] at h
  obtain ⟨ps, ⟨g, t, cs, fuel, p, q, hg, ht, hvar, hd, _, _⟩, _⟩ := h
  obtain rfl := Option.some.inj (gRooms.symm.trans hg)
  obtain rfl := Option.some.inj (tRooms.symm.trans ht)
  have hcs : cs = #[.int .i64 0, .int .i64 0, .int .i64 4, .int .i64 16, .int .i64 48, .int .i64 256] := by
    obtain ⟨l⟩ := cs
    cases fuel with
    | zero => simp [DataW.trod] at hd
    | succ fuel =>
      simp only [DataW.trod, Tryz.underlying172, cInt6, cInt] at hd
      split at hd
      · rename_i hl
        obtain ⟨c0, c1, c2, c3, c4, c5, rfl⟩ : ∃ c0 c1 c2 c3 c4 c5, l = [c0, c1, c2, c3, c4, c5] := by
          match l, hl with
          | [a, b, c, d, e, f], _ => exact ⟨a, b, c, d, e, f, rfl⟩
        have e : List.range 6 = [0, 1, 2, 3, 4, 5] := rfl
        rw [e] at hd
        simp only [Option.map_eq_some_iff, List.mapM_cons, List.mapM_nil, Option.bind_eq_bind, Option.bind_eq_some_iff, Option.pure_def, Option.some.injEq] at hd
        obtain ⟨xs, ⟨y0, h0, _, ⟨y1, h1, _, ⟨y2, h2, _, ⟨y3, h3, _, ⟨y4, h4, _, ⟨y5, h5, _, rfl, rfl⟩, rfl⟩, rfl⟩, rfl⟩, rfl⟩, rfl⟩, hx⟩ := hd
        obtain ⟨n0, rfl, rfl⟩ := int_of_trod Tryz.underlying3 h0
        obtain ⟨n1, rfl, rfl⟩ := int_of_trod Tryz.underlying3 h1
        obtain ⟨n2, rfl, rfl⟩ := int_of_trod Tryz.underlying3 h2
        obtain ⟨n3, rfl, rfl⟩ := int_of_trod Tryz.underlying3 h3
        obtain ⟨n4, rfl, rfl⟩ := int_of_trod Tryz.underlying3 h4
        obtain ⟨n5, rfl, rfl⟩ := int_of_trod Tryz.underlying3 h5
        simp [Rows.laid_burgage_node_rooms] at hx
        obtain ⟨⟨rfl, rfl, rfl, rfl, rfl, rfl⟩, _⟩ := hx
        rfl
      · cases hd
  subst hcs
  refine ⟨fun k v hk => ?_⟩
  have hk6 : k < 6 := (List.getElem?_eq_some_iff.1 hk).1
  have hc := World.var?_cell hg hvar k
  rw [hc]
  rcases (by omega : k = 0 ∨ k = 1 ∨ k = 2 ∨ k = 3 ∨ k = 4 ∨ k = 5) with rfl | rfl | rfl | rfl | rfl | rfl <;> cases hk <;> rfl
set_option maxRecDepth 100000 in
theorem words_lifted (os : Os) (started : os.Started) (H : Type) (enc : TypeId × Value → H) :
    ReturnsInHanded {} Tryz.checked os 3 .any (fun w args => (Rows.treeWordsSpec.pre enc Tryz.prog Tryz.f3 [] false w args ∧ laidMetH Tryz.prog roomsLaid w) ∧ sizedMet enc Tryz.prog Tryz.f3 (OpenSpec.ofChange Rows.treeWordsSpec) false w args)
      (Rows.treeWordsSpec.post enc Tryz.prog Tryz.f3 false true false false) := by
  refine returnsInHanded_of_change_and (C := Tryz.checked) (X := fun w _ => laidMetH Tryz.prog roomsLaid w) (fun _ _ _ hh h => h.of_heap hh) own started (by kernel_rfl) Tryz.func3
    (ChangeSpec.witness_shaped (enc := enc) (C := Tryz.checked) (os := os) (X := fun w _ => laidMetH Tryz.prog roomsLaid w) false (World.doorLaid Tryz.prog 400 os) #[.slice none 0 0] 8 rfl (World.shaped_of_RefB (by kernel_rfl) (by kernel_rfl)) (by kernel_rfl) (by kernel_rfl) (by kernel_rfl) (door_met os _)) ?_
  intro W base args ds gs before hval0 hW _ _ hL _
  have hval : ∀ (j : Nat) t v, Tryz.f3.params[j]? = some t → args[j]? = some v → Value.okWide Tryz.prog W .any base t v := hval0
  have hW' := hW
  obtain ⟨p, q, hA0, hV, rfl, hfz, hnd⟩ := hW
  have hA : DataW.TrodAll enc Tryz.prog W 0 (fun _ => true) true Tryz.f3.params.toList args.toList ds p := hA0
  rw [Tryz.params3] at hA hval
  obtain ⟨v0, vs0, d0, ds0, p0, q0, hargs, rfl, rfl, h0, r0⟩ := trodAll_cons hA
  obtain ⟨rfl, rfl, rfl⟩ := trodAll_nil r0
  obtain rfl : args = #[v0] := by cases args; simp_all
  obtain ⟨rfl, rfl⟩ := trodVars_none hV
  have k0 := h0
  have lt0 : ∀ x ∈ p0, x.block < W.heap.size := by obtain ⟨m, hm⟩ := k0; exact DataW.trod_lt m _ _ _ hm
  have hR := of_laid hL
  clear hA0 hval0
  obtain ⟨a0, len0, cap0, zs, rfl, hcells⟩ : ∃ (a0 : Option Addr) (len0 cap0 : Nat) (zs : Nat → Int), v0 = .slice a0 len0 cap0 ∧ ∀ k, k < len0 → ∃ bl off, a0 = some ⟨bl, off, none⟩ ∧ bl < W.heap.size ∧ W.cell? ⟨bl, off + k, none⟩ = some (.int .i64 (zs k)) := by
    obtain ⟨a0, len0, cap0, rfl⟩ := okWide_slice Tryz.underlying22 (hval 0 22 v0 rfl rfl)
    have hF := open_flat Tryz.underlying22 (by rw [cInt]; omega) (fun cs => ∃ n, cs = [.int .i64 n]) (fun n cs x h => int_good h) h0
    rw [cInt] at hF
    by_cases hl : 0 < len0
    · obtain ⟨bl, off, rfl, hbl, hall⟩ := hF hl
      refine ⟨_, _, _, fun k => match W.cell? ⟨bl, off + k, none⟩ with | some (.int _ n) => n | _ => 0, rfl, fun k hk => ⟨bl, off, rfl, hbl, ?_⟩⟩
      obtain ⟨cs, ⟨n, rfl⟩, hj⟩ := hall k hk
      have := hj 0 (by omega)
      simp only [Nat.mul_one, Nat.add_zero] at this
      have e : W.cell? ⟨bl, off + k, none⟩ = some (.int .i64 n) := this
      simp only [e]
    · exact ⟨_, _, _, fun _ => 0, rfl, fun k hk => by omega⟩
  refine (T.Ws.words_any a0 len0 cap0 zs W hR hcells).mono fun e W' ⟨he, bel⟩ => ?_
  subst he
  exact ⟨_, rfl, _, _, _, [], _, [], hW', trodAll_mk1 (shut_bool Tryz.underlying4 _), (trodAll_cons_mk (Below.trod laidOut (by kernel_rfl) (of_decide_eq_true (by kernel_rfl)) k0 bel lt0) trodAll_mk0), rfl, bel.frame _, fun h => by cases h⟩
theorem words_over : Rows.TreeWordsSaid :=
  OpenClaim.holds_of_wide 3 Tryz.f3 rfl rfl rfl rfl rfl rfl rfl ⟨rfl, rfl, rfl, rfl, rfl⟩ rfl rfl rfl rfl rfl (by kernel_rfl) Tryz.func3 (by kernel_rfl)
    (of_decide_eq_true (by kernel_rfl)) (by unfold Func.isWrapper; first | (rw [if_pos (by decide +kernel)]; kernel_rfl) | (rw [if_neg (by decide +kernel)]; exact ⟨rfl, rfl⟩))
    (fun os started H enc _ => words_lifted os started H enc)
theorem words_card_proved : Rows.TreeWordsCardSaid :=
  Claim7.holds_tied_plain_at .later [] [.data] true (true, "c1ba0b151595e8cb2c135c5f1036985d587761f42c823bf0f847f054d8b22407") true
    words_over (fun _ h => by cases h) (by kernel_rfl) (fun _ h => by cases h) treeWords_row_tie rfl ⟨rfl, rfl⟩ (by kernel_rfl) rfl
    (fun f fn hf hfn => by
      obtain rfl : f = 3 := Option.some.inj ((show Tryz.prog.funcNamed "burgage/burgagelaw17.TreeWords" = some 3 by kernel_rfl).symm.trans hf) |>.symm
      obtain rfl : fn = Tryz.f3 := (Option.some.inj (Tryz.func3.symm.trans hfn)).symm
      exact ⟨by kernel_rfl, fun j t ht => by
        rw [Tryz.params3] at ht
        have hm : t ∈ [22] := by simpa using Array.mem_of_getElem? ht
        have hall : ([22].all fun u => !Tryz.prog.wantsStandIn u) = true := by kernel_rfl
        exact (show Tryz.prog.wantsStandIn t = false by simpa using List.all_eq_true.1 hall t hm)⟩)
    (by kernel_rfl)
end Go.Proofs.YtnngicopphiaaaaGreatDoor
