/- Part 29 of 51 of a proof: lemmas on the functions that it reaches. -/
import Derived.Test.YtnngicopphiaaaaGreatDoorC28
import Derived.Test.YtnngicopphiaaaaGreatDoorC27
import Derived.ScopeJumps
import Derived.WalkMore
import Derived.Test.YtnngicopphiaaaaGreatDoorC25
import Derived.Test.YtnngicopphiaaaaGreatDoorC26
import Derived.Test.YtnngicopphiaaaaGreatDoorC03
import Derived.BigQuiet
namespace Go.Proofs.YtnngicopphiaaaaGreatDoor.D
set_option maxRecDepth 8000
open Go.ChangeShapes Go.WideShapes Go.ChangeAt Go.RowKit Go.Burg Go.Shelf
attribute [local go_sem] Oper.semAt_some
theorem blk_a {w : World} {b : Nat} {o o' : Obj} (h : w.heap[b]? = some o) : (w.alloc o').heap[b]? = some o := (Below.heap_alloc _ _ _ (lt_of_block h)).trans h
theorem addr_ad (g j : Nat) : (⟨g, 0, none⟩ : Addr).add j = ⟨g, 0 + j, none⟩ := by unfold Addr.add; split <;> simp_all
theorem own_sl {w : World} {B : Nat} {e : TypeId} {s n : Nat} {v : Value} {xs : List Value} (h : w.ownsRow B e s v n xs) : ∃ a c, v = .slice a n c := by
  obtain ⟨_, ⟨rfl, rfl⟩ | ⟨g, cap, cur, rfl, _⟩⟩ := h
  · exact ⟨_, _, rfl⟩
  · exact ⟨_, _, rfl⟩
theorem key_at {R : Nat} (w : World) :
    Calls Tryz.prog 116 #[.pointer (some ⟨R, 0, none⟩)] w fun e w' => e = .returned (.func (.func 127) #[] #[.pointer (some ⟨w.heap.size, 0, none⟩)]) ∧ w' = w.alloc (.cells #[.pointer (some ⟨R, 0, none⟩)] 186 (0, 0)) := by
  have hmf : ∀ (fn : Fn) (first cap : Array Value) (w : World), (Instr.makeFunc fn first cap).run Tryz.prog w = .ok (.func fn first cap) w := fun _ _ _ _ => rfl
  go_enter Tryz.func116, Tryz.ntmps116
  go_wp2_with fail
  go_ret
  exact ⟨rfl, rfl⟩
set_option maxRecDepth 100000 in
set_option maxHeartbeats 8000000 in
theorem Decode_at {c : ByteArray} {K : List UInt8} (w : World) (hc : byt c = encL K) (hsz : c.size ≤ 100000) (hK : K.length ≤ 16) :
    Calls Tryz.prog 102 #[.string c] w fun e w' => e = .returned (.tuple #[.string ⟨K.toArray⟩, .int .i64 0]) ∧ Below w.heap.size w w' := by
  have hmf : ∀ (fn : Fn) (first cap : Array Value) (w : World), (Instr.makeFunc fn first cap).run Tryz.prog w = .ok (.func fn first cap) w := fun _ _ _ _ => rfl
  refine (callsIn_wide (n := 8)).1 ?_
  refine callsIn_of_wp_marks Tryz.func102 rfl trivial ?_ rfl
  refine wpIn_wide.2 ?_
  simp only [Tryz.ntmps102, List.size_toArray, List.length_cons, List.length_nil, Nat.reduceAdd, Nat.reduceSub, Array.replicate_succ, Array.replicate_zero, List.push_toArray, List.append_toArray, List.nil_append, List.cons_append]
  go_wp2_with (go_at_call 116; refine (key_at _).mono ?_; rintro e w2 ⟨rfl, rfl⟩)
  have hs1 : (w.alloc (.cells #[.string ⟨#[]⟩] 9 (0, 0))).heap.size = w.heap.size + 1 := by simp
  have hs2 : ((w.alloc (.cells #[.string ⟨#[]⟩] 9 (0, 0))).alloc (.cells #[.int .i64 0] 25 (0, 0))).heap.size = w.heap.size + 1 + 1 := by simp
  have hs3 : (((w.alloc (.cells #[.string ⟨#[]⟩] 9 (0, 0))).alloc (.cells #[.int .i64 0] 25 (0, 0))).alloc (.cells #[.string c, .int .i64 0] 190 (0, 0))).heap.size = w.heap.size + 1 + 1 + 1 := by simp
  have hs4 : ((((w.alloc (.cells #[.string ⟨#[]⟩] 9 (0, 0))).alloc (.cells #[.int .i64 0] 25 (0, 0))).alloc (.cells #[.string c, .int .i64 0] 190 (0, 0))).alloc (.cells #[.slice none 0 0] 51 (0, 0))).heap.size = w.heap.size + 1 + 1 + 1 + 1 := by simp
  have hs5 : (((((w.alloc (.cells #[.string ⟨#[]⟩] 9 (0, 0))).alloc (.cells #[.int .i64 0] 25 (0, 0))).alloc (.cells #[.string c, .int .i64 0] 190 (0, 0))).alloc (.cells #[.slice none 0 0] 51 (0, 0))).alloc (.cells #[.pointer (some ⟨w.heap.size + 1 + 1, 0, none⟩)] 186 (0, 0))).heap.size = w.heap.size + 1 + 1 + 1 + 1 + 1 := by simp
  have b0 := blk_a (o' := (.cells #[.pointer (some ⟨w.heap.size + 1 + 1, 0, none⟩)] 186 (0, 0))) (blk_a (o' := (.cells #[.slice none 0 0] 51 (0, 0))) (blk_a (o' := (.cells #[.string c, .int .i64 0] 190 (0, 0))) (blk_a (o' := (.cells #[.int .i64 0] 25 (0, 0))) (heap_new w (.cells #[.string ⟨#[]⟩] 9 (0, 0))))))
  have b1 := blk_a (o' := (.cells #[.pointer (some ⟨w.heap.size + 1 + 1, 0, none⟩)] 186 (0, 0))) (blk_a (o' := (.cells #[.slice none 0 0] 51 (0, 0))) (blk_a (o' := (.cells #[.string c, .int .i64 0] 190 (0, 0))) (heap_new (w.alloc (.cells #[.string ⟨#[]⟩] 9 (0, 0))) (.cells #[.int .i64 0] 25 (0, 0)))))
  have b2 := blk_a (o' := (.cells #[.pointer (some ⟨w.heap.size + 1 + 1, 0, none⟩)] 186 (0, 0))) (blk_a (o' := (.cells #[.slice none 0 0] 51 (0, 0))) (heap_new ((w.alloc (.cells #[.string ⟨#[]⟩] 9 (0, 0))).alloc (.cells #[.int .i64 0] 25 (0, 0))) (.cells #[.string c, .int .i64 0] 190 (0, 0))))
  have b3 := blk_a (o' := (.cells #[.pointer (some ⟨w.heap.size + 1 + 1, 0, none⟩)] 186 (0, 0))) (heap_new (((w.alloc (.cells #[.string ⟨#[]⟩] 9 (0, 0))).alloc (.cells #[.int .i64 0] 25 (0, 0))).alloc (.cells #[.string c, .int .i64 0] 190 (0, 0))) (.cells #[.slice none 0 0] 51 (0, 0)))
  have b4 := heap_new ((((w.alloc (.cells #[.string ⟨#[]⟩] 9 (0, 0))).alloc (.cells #[.int .i64 0] 25 (0, 0))).alloc (.cells #[.string c, .int .i64 0] 190 (0, 0))).alloc (.cells #[.slice none 0 0] 51 (0, 0))) (.cells #[.pointer (some ⟨w.heap.size + 1 + 1, 0, none⟩)] 186 (0, 0))
  rw [hs1] at b1
  rw [hs2] at b2
  rw [hs3] at b3
  rw [hs4] at b4
  have hB : Below w.heap.size w (((((w.alloc (.cells #[.string ⟨#[]⟩] 9 (0, 0))).alloc (.cells #[.int .i64 0] 25 (0, 0))).alloc (.cells #[.string c, .int .i64 0] 190 (0, 0))).alloc (.cells #[.slice none 0 0] 51 (0, 0))).alloc (.cells #[.pointer (some ⟨w.heap.size + 1 + 1, 0, none⟩)] 186 (0, 0))) := (((((Below.refl _ _).alloc (Nat.le_refl _) _).alloc (by simp) _).alloc (by simp; omega) _).alloc (by simp; omega) _).alloc (by simp; omega) _
  generalize hWl : (((((w.alloc (.cells #[.string ⟨#[]⟩] 9 (0, 0))).alloc (.cells #[.int .i64 0] 25 (0, 0))).alloc (.cells #[.string c, .int .i64 0] 190 (0, 0))).alloc (.cells #[.slice none 0 0] 51 (0, 0))).alloc (.cells #[.pointer (some ⟨w.heap.size + 1 + 1, 0, none⟩)] 186 (0, 0))) = Wl at *
  generalize hu : w.heap.size = u at *
  have h0 : DcI u w [] Wl := ⟨b0, b1, ⟨_, b3, World.ownsRow_nil _ _ _ _⟩, hB, by omega⟩
  have hnm : ¬ MineAt (u + 1 + 1 + 1) Wl (u + 1 + 1 + 1 + 1) := by
    rintro ⟨n, c', hm⟩
    rw [cell_of b3 0] at hm
    simp at hm
  have hml : ∀ i, MineAt (u + 1 + 1 + 1) Wl i → i < Wl.heap.size := by
    rintro i ⟨n, c', hm⟩
    rw [cell_of b3 0] at hm
    simp at hm
  have hMR : ∀ A B i, u + 1 + 1 + 1 + 1 ≤ A.heap.size → Mod (· = u + 1 + 1) A B → MineAt (u + 1 + 1 + 1) B i → MineAt (u + 1 + 1 + 1) A i := by
    rintro A B i hsA hM ⟨n, c', hm⟩
    exact ⟨n, c', (World.cell?_of_block (w := A) (hM.block _ (show u + 1 + 1 + 1 < A.heap.size by omega) (show ¬ u + 1 + 1 + 1 = u + 1 + 1 by omega))).symm.trans hm⟩
  have HT := hid (key1_turn (u + 1 + 1 + 1 + 1) (u + 1 + 1) (u + 1 + 1 + 1 + 1) K Wl b4 b2 hc hsz (Nat.le_refl _) (MineAt (u + 1 + 1 + 1)) (mineAt_ok (by omega)) hMR hnm)
  have H0 := hid h0
  have HB := hid hB
  have HU := hid hu
  have HK := hid hK
  have HML := hid hml
  clear hWl hs1 hs2 hs3 hs4 b0 b1 b2 b3 b4 h0 hB hnm hMR hml hc
  refine wpIn_wide.1 (range_turn (n := 8) (u + 1 + 1) (.cells #[.string c, .int .i64 c.size] 190 (0, 0)) (by decide) (gf := 127) (lb := #[.pointer (some ⟨(u + 1 + 1 + 1 + 1), 0, none⟩)]) rfl (enters_of Tryz.func127 (by kernel_rfl) rfl) (MineAt (u + 1 + 1 + 1)) (mineAt_ok (by omega)) HT.out (by omega) (by omega) HML.out (Below.refl _ _) (fun _ => rfl)
    (DcI u w) (fun _ _ => False) (DcI.own (by omega)) (fun _ _ _ _ h _ _ => h) DcI.abR (fun _ _ _ h _ => h) H0.out (fun x a' _ => a' = ({ tmps := #[.string c, undef, .pointer (some ⟨u, 0, none⟩), .pointer (some ⟨(u + 1), 0, none⟩), .pointer (some ⟨(u + 1 + 1), 0, none⟩), .pointer (some ⟨(u + 1 + 1 + 1), 0, none⟩), .int .u8 (x.toNat : Int), .func (.func 115) #[] #[.pointer (some ⟨u, 0, none⟩), .pointer (some ⟨(u + 1), 0, none⟩)], .string c, .agg #[.string c, .int .i64 0], .agg #[.string c, .int .i64 0], .pointer (some ⟨(u + 1 + 1), 0, none⟩), .pointer (some ⟨(u + 1 + 1), 0, none⟩), .func (.func 127) #[] #[.pointer (some ⟨(u + 1 + 1 + 1 + 1), 0, none⟩)], .int .u8 (x.toNat : Int), undef, undef, undef, undef, undef, undef, undef, undef, undef, undef, undef, undef, undef, undef, undef, undef, undef], defers := [] } : Act)) (fun _ _ _ _ _ _ h _ _ => h) ?assign ?body ?done ?stop)
  case assign =>
    rintro l pre x W K2 hI hK2
    dsimp only [encB]
    gi_wp2_with fail
    exact hK2 _ _ (KeepsFrom.refl _ _) (KpM.refl _ _ _) hI rfl rfl
  case body =>
    rintro l pre x a' W hl hrec hI rfl hlen
    obtain ⟨v, h1, hv⟩ := hI.o
    obtain ⟨i1, hi1, hz1, hs1, hby1⟩ := info_parts (P := Tryz.prog) (e := 5) (z := .int .u8 0) (size := 1) (bytes := 1) (by kernel_rfl)
    have HI1 := hid hi1
    have HZ1 := hid hz1
    have HS1 := hid hs1
    have HY1 := hid hby1
    have HI := hid hI
    have H1 := hid h1
    have HV := hid hv
    have q0 := cell_of h1 0
    have hnb := heap_new W (.cells #[.int .u8 (x.toNat : Int)] 5 (0, 0))
    have HNB := hid hnb
    have HLEN := hid hlen
    have hsz1 := hI.z
    clear hi1 hz1 hs1 hby1 hI h1 hv hnb hlen
    gi_wp2_with (refine wpListIn_append_own_at (W.alloc (.cells #[.int .u8 (x.toNat : Int)] 5 (0, 0))) rfl (.tmp 15) (.tmp 17) 51 rfl (u + 1 + 1 + 1 + 1) 5 i1 (.int .u8 0) 1 1 Tryz.underlying51 HI1.out HZ1.out HS1.out HY1.out rfl (by decide) v pre.length (u8L pre) (by kernel_rfl) (HV.out.alloc _) ⟨W.heap.size, 0, none⟩ 1 1 [.int .u8 (x.toNat : Int)] (by kernel_rfl) rfl (fun j z hj => by rw [addr_ad, Nat.zero_add, cell_of HNB.out, List.getElem?_toArray]; exact hj) (by simp [Value.oneCell']) (by have := HLEN.out; have := HK.out; simp [maxLen]; omega) (by have := HLEN.out; have := HK.out; omega) (by simp; omega) ?_)
    intro v' w2 g1 g2 _ g4
    obtain ⟨ho2, hI3, ho3, hk3, hp3, hr3⟩ := DcI.round HI.out H1.out HV.out g1 g2 g4
    obtain ⟨a3, c3, rfl⟩ := own_sl g1
    clear q0
    have q1 := cell_of ho2 0
    have qf := free_of ho2
    have q2 := cell_of ho3 0
    have HE := hid (And.intro hk3 (And.intro hp3 (And.intro hI3 hr3)))
    have hle : decide ((pre.length : Int) + 1 > 16) = false := by have := HLEN.out; have := HK.out; simp; omega
    clear ho2 hI3 ho3 hk3 hp3 hr3 g1 g2 g4
    gi_wp2_with fail
    exact ⟨by rw [hs5]; exact HE.out.1, HE.out.2.1, HE.out.2.2.1, HE.out.2.2.2⟩
  case done =>
    rintro D xs W hD rfl hI hR hdf
    obtain ⟨v, h1, hv⟩ := hI.o
    have hst := own_string hv
    have r0 := cell_of hR 0
    have r1 := cell_of hR 1
    have q0 := cell_of h1 0
    have s0 := cell_of hI.s 0
    have sf := free_of hI.s
    have e0 := cell_of hI.e 0
    have ef := free_of hI.e
    have HI := hid hI
    have HDF := hid hdf
    clear hI hv h1 hR hdf hsz HT H0 HML HB
    go_wp2_with fail
    have hM : Mod (fun k => k = u ∨ k = u + 1) W ((W.setCell ⟨u, 0, none⟩ (.string ⟨xs.toArray⟩)).setCell ⟨u + 1, 0, none⟩ (.int .i64 0)) :=
      Mod.setCell (S := fun k => k = u ∨ k = u + 1) (p := ⟨u + 1, 0, none⟩) (Mod.setCell (S := fun k => k = u ∨ k = u + 1) (p := ⟨u, 0, none⟩) (Mod.refl _ _) (.inl (.inl rfl)) _) (.inl (.inr rfl)) _
    have m0 : ((W.setCell ⟨u, 0, none⟩ (.string ⟨xs.toArray⟩)).setCell ⟨u + 1, 0, none⟩ (.int .i64 0)).heap[u]? = some (.cells #[.string ⟨xs.toArray⟩] 9 (0, 0)) := by
      have h1 := heap_set (i := 0) (v := .string ⟨xs.toArray⟩) HI.out.s
      have hMs : Mod (· = u + 1) (W.setCell ⟨u, 0, none⟩ (.string ⟨xs.toArray⟩)) ((W.setCell ⟨u, 0, none⟩ (.string ⟨xs.toArray⟩)).setCell ⟨u + 1, 0, none⟩ (.int .i64 0)) := Mod.setCell (S := (· = u + 1)) (p := ⟨u + 1, 0, none⟩) (Mod.refl _ _) (.inl rfl) _
      have h2 := (hMs.block u (lt_of_block h1) (by show ¬ u = u + 1; omega)).trans h1
      simpa using h2
    have m1 : ((W.setCell ⟨u, 0, none⟩ (.string ⟨xs.toArray⟩)).setCell ⟨u + 1, 0, none⟩ (.int .i64 0)).heap[u + 1]? = some (.cells #[.int .i64 0] 25 (0, 0)) := by
      have hMs : Mod (· = u) W (W.setCell ⟨u, 0, none⟩ (.string ⟨xs.toArray⟩)) := Mod.setCell (S := (· = u)) (p := ⟨u, 0, none⟩) (Mod.refl _ _) (.inl rfl) _
      have h1 := heap_set (i := 0) (v := .int .i64 0) ((hMs.block (u + 1) (lt_of_block HI.out.e) (by show ¬ u + 1 = u; omega)).trans HI.out.e)
      simpa using h1
    generalize (W.setCell ⟨u, 0, none⟩ (.string ⟨xs.toArray⟩)).setCell ⟨u + 1, 0, none⟩ (.int .i64 0) = W2 at *
    have hdf2 := (hM.block D (lt_of_block HDF.out) (by show ¬ (D = u ∨ D = u + 1); omega)).trans HDF.out
    refine ⟨by simp, .inl ⟨_, _, rfl, run_takeDeferred hdf2, ?_⟩⟩
    refine ⟨by simp, .inr ⟨(fun h => by cases h), _, _, 115, #[.pointer (some ⟨u, 0, none⟩), .pointer (some ⟨(u + 1), 0, none⟩)], rfl, by simp [go_sem], fun _ _ => trivial, ?_⟩⟩
    refine (idle_in _ _ _ _).mono ?_
    rintro e u' w'' ⟨rfl, rfl, rfl⟩
    have p0 := cell_of ((World.putObj_heap_other (w := W2) (r := D) (o := .deferred none) (k := u) (by omega)).trans m0) 0
    have p1 := cell_of ((World.putObj_heap_other (w := W2) (r := D) (o := .deferred none) (k := u + 1) (by omega)).trans m1) 0
    refine ⟨.tuple #[.string ⟨xs.toArray⟩, .int .i64 0], by simp [results, Tryz.results102, go_sem, p0, p1], rfl, ?_⟩
    rw [hu]
    exact HI.out.b.trans ⟨hM.os, hM.tape, hM.output, by simpa using hM.size, fun k hk => (World.putObj_heap_other (by omega)).trans (hM.block k (by have := lt_of_block HI.out.s; omega) (by show ¬ (k = u ∨ k = u + 1); omega))⟩
  case stop => exact fun D pre W hD hp h hk => h.elim
end Go.Proofs.YtnngicopphiaaaaGreatDoor.D

namespace Go.Burg
open Go
def Coded (c : ByteArray) : Prop := ∃ K : List UInt8, byt c = encL K ∧ K.length ≤ 16
theorem encL_len : ∀ K : List UInt8, (encL K).length ≤ 2 * K.length + 2
  | [] => by simp [encL]
  | x :: l => by
    have := encL_len l
    unfold encL
    split <;> simp <;> omega
theorem Coded.size {c : ByteArray} (h : Coded c) : c.size ≤ 34 := by
  obtain ⟨K, h1, h2⟩ := h
  have := encL_len K
  rw [← h1, byt_len] at this
  omega
end Go.Burg
namespace Go.Proofs.YtnngicopphiaaaaGreatDoor.D
set_option maxRecDepth 8000
open Go.ChangeShapes Go.WideShapes Go.ChangeAt Go.RowKit Go.Burg Go.Shelf
theorem Is_at {c : ByteArray} (w : World) (h : Coded c) : Calls Tryz.prog 73 #[.string c] w fun e w' => e = .returned (.bool true) ∧ Below w.heap.size w w' := by
  have hs := h.size
  obtain ⟨K, h1, h2⟩ := h
  have HD := hid (Decode_at w h1 (by omega) h2)
  clear h1 h2 hs
  go_enter Tryz.func73, Tryz.ntmps73
  go_wp2_with (go_at_call 102; refine HD.out.mono ?_; rintro e w2 ⟨rfl, hb⟩)
  go_ret
  exact ⟨by first | rfl | simp, hb⟩
end Go.Proofs.YtnngicopphiaaaaGreatDoor.D

namespace Go
def Exit.jumps (J : Nat → Act → World → Prop) (Q : Exit → Act → World → Prop) : Exit → Act → World → Prop
  | .goto l, a, w => J l a w
  | e, a, w => Q e a w
section
variable {P : Program} {a : Act} {w : World} {Q : Exit → Act → World → Prop}
theorem wp_scope_two {c r0 r1 : Code} (l0 l1 : Nat) (J0 J1 : Act → World → Prop) (μ : Act → World → Nat) (h0 : findLabel c l0 = some (Code.skip.seq r0)) (h1 : findLabel c l1 = some (Code.skip.seq r1))
    (first : (∀ a w, J0 a w → r0.wp P (Exit.jumps (fun l a' w' => (l = l0 ∧ J0 a' w') ∨ (l = l1 ∧ J1 a' w')) Q) a w) → c.wp P (Exit.jumps (fun l a' w' => (l = l0 ∧ J0 a' w') ∨ (l = l1 ∧ J1 a' w')) Q) a w)
    (pass0 : ∀ a w, J0 a w → r0.wp P (Exit.jumps (fun l a' w' => (l = l0 ∧ J0 a' w' ∧ μ a' w' < μ a w) ∨ (l = l1 ∧ J1 a' w')) Q) a w)
    (pass1 : ∀ a w, J1 a w → r1.wp P (Exit.jumps (fun _ _ _ => False) Q) a w) : (Code.scope c).wp P Q a w := by
  intro b k cs
  have hg0 : gotoIn l0 (.inScope c :: k) = some (.code (Code.skip.seq r0) :: .inScope c :: k) := by simp [gotoIn, h0]
  have hg1 : gotoIn l1 (.inScope c :: k) = some (.code (Code.skip.seq r1) :: .inScope c :: k) := by simp [gotoIn, h1]
  have key1 : ∀ a w, J1 a w → ∃ e a' w', Q e a' w' ∧ Arrives P (lone (b.at a (.code (Code.skip.seq r1) :: .inScope c :: k)) cs w) b k cs e a' w' := by
    intro a w hJ
    obtain ⟨e, a₁, w₁, hq, harr⟩ := (wp_seq (wp_skip (Q := Exit.then (r1.wp P _) _) (pass1 a w hJ)) : (Code.skip.seq r1).wp P _ a w) b (.inScope c :: k) cs
    cases e with
    | normal => exact ⟨.normal, a₁, w₁, hq, Steps.trans harr (.one step_inScope)⟩
    | exit id => exact ⟨.exit id, a₁, w₁, hq, fun k' hk => harr k' (by simp [exitTo, hk])⟩
    | goto l' => exact hq.elim
    | ret => exact ⟨_, a₁, w₁, hq, harr⟩
    | panic ch => exact ⟨_, a₁, w₁, hq, harr⟩
    | outgrown => exact ⟨_, a₁, w₁, hq, harr⟩
  have key : ∀ n a w, μ a w = n → J0 a w → ∃ e a' w', Q e a' w' ∧ Arrives P (lone (b.at a (.code (Code.skip.seq r0) :: .inScope c :: k)) cs w) b k cs e a' w' := by
    intro n
    induction n using Nat.strongRecOn with
    | _ n ih =>
      intro a w hn hJ
      obtain ⟨e, a₁, w₁, hq, harr⟩ := (wp_seq (wp_skip (Q := Exit.then (r0.wp P _) _) (pass0 a w hJ)) : (Code.skip.seq r0).wp P _ a w) b (.inScope c :: k) cs
      cases e with
      | normal => exact ⟨.normal, a₁, w₁, hq, Steps.trans harr (.one step_inScope)⟩
      | exit id => exact ⟨.exit id, a₁, w₁, hq, fun k' hk => harr k' (by simp [exitTo, hk])⟩
      | goto l' =>
        rcases hq with ⟨rfl, hJ', hlt⟩ | ⟨rfl, hJ'⟩
        · obtain ⟨e₂, a₂, w₂, hq₂, harr₂⟩ := ih _ (by omega) a₁ w₁ rfl hJ'
          exact ⟨e₂, a₂, w₂, hq₂, .of_steps (harr _ hg0) harr₂⟩
        · obtain ⟨e₂, a₂, w₂, hq₂, harr₂⟩ := key1 a₁ w₁ hJ'
          exact ⟨e₂, a₂, w₂, hq₂, .of_steps (harr _ hg1) harr₂⟩
      | ret => exact ⟨_, a₁, w₁, hq, harr⟩
      | panic ch => exact ⟨_, a₁, w₁, hq, harr⟩
      | outgrown => exact ⟨_, a₁, w₁, hq, harr⟩
  have weak : ∀ a w, J0 a w → r0.wp P (Exit.jumps (fun l a' w' => (l = l0 ∧ J0 a' w') ∨ (l = l1 ∧ J1 a' w')) Q) a w := fun a w hJ b k cs => by
    obtain ⟨e, a₁, w₁, hq, harr⟩ := pass0 a w hJ b k cs
    refine ⟨e, a₁, w₁, ?_, harr⟩
    cases e with
    | goto l' => exact hq.elim (fun h => .inl ⟨h.1, h.2.1⟩) .inr
    | normal => exact hq
    | exit id => exact hq
    | ret => exact hq
    | panic ch => exact hq
    | outgrown => exact hq
  obtain ⟨e, a₁, w₁, hq, harr⟩ := first weak b (.inScope c :: k) cs
  cases e with
  | normal => exact ⟨.normal, a₁, w₁, hq, .head step_scope (Steps.trans harr (.one step_inScope))⟩
  | exit id => exact ⟨.exit id, a₁, w₁, hq, fun k' hk => .head step_scope (harr k' (by simp [exitTo, hk]))⟩
  | goto l' =>
    rcases hq with ⟨rfl, hJ'⟩ | ⟨rfl, hJ'⟩
    · obtain ⟨e₂, a₂, w₂, hq₂, harr₂⟩ := key _ a₁ w₁ rfl hJ'
      exact ⟨e₂, a₂, w₂, hq₂, .of_steps (.head step_scope (harr _ hg0)) harr₂⟩
    · obtain ⟨e₂, a₂, w₂, hq₂, harr₂⟩ := key1 a₁ w₁ hJ'
      exact ⟨e₂, a₂, w₂, hq₂, .of_steps (.head step_scope (harr _ hg1)) harr₂⟩
  | ret => exact ⟨_, a₁, w₁, hq, .of_steps (.one step_scope) harr⟩
  | panic ch => exact ⟨_, a₁, w₁, hq, .of_steps (.one step_scope) harr⟩
  | outgrown => exact ⟨_, a₁, w₁, hq, .of_steps (.one step_scope) harr⟩
end
end Go
namespace Go.Burg
open Go Go.RowKit
structure SpotP where
  what : Nat
  way : List (Int × Int)
  at_ : Nat
  depth : Nat
def rst (c : ByteArray) (d : Nat) : ByteArray := c.extract d c.size
theorem rst_size (c : ByteArray) (d : Nat) : (rst c d).size = c.size - d := by simp [rst, ByteArray.size_extract]
inductive SeekW (P : List (Cel PNd)) (c : ByteArray) : Int × Int → Nat → List (Int × Int) → SpotP → Prop
  | leaf {r : Int × Int} {d : Nat} {W : List (Int × Int)} {i : Nat} {q : PNd} {c' v : ByteArray} (h : LiveP P r.1 r.2 i q) (hn : q.n = .leaf c' v) (h1 : d ≤ c.size) (h2 : d ≤ c'.size) : SeekW P c r d W ⟨if c' = c then 1 else 4, W ++ [r], if c' = c then 0 else com (rst c d) (rst c' d), d⟩
  | split {r : Int × Int} {d : Nat} {W : List (Int × Int)} {i : Nat} {q : PNd} {k : Nat} {pt : ByteArray} {L : List Kd} (h : LiveP P r.1 r.2 i q) (hn : q.n = .inner k pt L) (h1 : d ≤ c.size) (h2 : com (rst c d) pt < pt.size) : SeekW P c r d W ⟨3, W ++ [r], com (rst c d) pt, d⟩
  | bare {r : Int × Int} {d : Nat} {W : List (Int × Int)} {i : Nat} {q : PNd} {k : Nat} {pt : ByteArray} {L : List Kd} {x : UInt8} (h : LiveP P r.1 r.2 i q) (hn : q.n = .inner k pt L) (h1 : d ≤ c.size) (h2 : com (rst c d) pt = pt.size) (hx : (byt (rst c d))[pt.size]? = some x) (hf : findK L x.toNat = none) : SeekW P c r d W ⟨2, W ++ [r], x.toNat, d⟩
  | down {r : Int × Int} {d : Nat} {W : List (Int × Int)} {i : Nat} {q : PNd} {k : Nat} {pt : ByteArray} {L : List Kd} {x : UInt8} {kk : Kd} {s : SpotP} (h : LiveP P r.1 r.2 i q) (hn : q.n = .inner k pt L) (h1 : d ≤ c.size) (h2 : com (rst c d) pt = pt.size) (hx : (byt (rst c d))[pt.size]? = some x) (hf : findK L x.toNat = some kk)
      (hs : SeekW P c (kk.s, kk.g) (d + pt.size + 1) (W ++ [r]) s) : SeekW P c r d W s
end Go.Burg

namespace Go.Proofs.YtnngicopphiaaaaGreatDoor.T
set_option maxRecDepth 8000
open Go.ChangeShapes Go.WideShapes Go.ChangeAt Go.RowKit Go.Burg
open Go.Burg.Lk
set_option maxHeartbeats 4000000 in
theorem planted_at {t sb sg kb km i : Nat} {l : List (Cel Nd)} {L : List (RefK × Wd)} {tk : Int} {c : Cel Nd} (slot gen : Int) (w : World) (h : TreeAt w t sb sg kb km l L tk) (hL : S.Live l slot gen i c) :
    Calls Tryz.prog 42 #[.pointer (some ⟨t, 0, none⟩), .agg #[.int .i64 slot, .int .u32 gen]] w fun e w' => e = .returned (.bool c.x.planted) ∧ Below w.heap.size w w' := by
  have hN := heap_new w (.cells #[.int .i64 slot, .int .u32 gen] 30 (0, 0))
  have hA := h.alloc (.cells #[.int .i64 slot, .int .u32 gen] 30 (0, 0))
  have hB : Below w.heap.size w (w.alloc (.cells #[.int .i64 slot, .int .u32 gen] 30 (0, 0))) := (Below.refl _ _).alloc (Nat.le_refl _) _
  obtain ⟨is, ⟨kn, cd, vl, pt, ⟨ya, yn, yc⟩, ⟨za, zn, zc⟩, pl, di⟩, gn⟩ := c
  generalize hW : w.alloc (.cells #[.int .i64 slot, .int .u32 gen] 30 (0, 0)) = W at *
  have HW := hid hW
  have HA := hid hA
  have HN := hid hN
  have HB := hid hB
  have HT : Hid (∀ w1, Below W.heap.size W w1 → Calls Tryz.prog 30 #[.pointer (some ⟨sb, 0, none⟩), .agg #[.int .i64 slot, .int .u32 gen]] w1 fun e w' => e = .returned (.tuple #[.agg #[.int .i64 kn, .string cd, .string vl, .string pt, .slice ya yn yc, .slice za zn zc, .bool pl, .bool di], .bool true]) ∧ Below w1.heap.size w1 w') := hid (fun (w1 : World) (hw1 : Below W.heap.size W w1) => S.get_live slot gen w1 (HA.out.keep hw1).hs hL)
  have c0 := cell_of HA.out.ht 0
  have n0 := cell_of HN.out 0
  have n1 := cell_of HN.out 1
  have l0 := lt_of_block HN.out
  have l1 := lt_of_block HA.out.ht
  clear hW hA hN hB h hL
  go_enter Tryz.func42, Tryz.ntmps42
  go_wp2_with fail
  rw [HW.out]
  go_region_with (go_at_call 30; refine (HT.out _ (by (repeat (first | exact Below.refl _ _ | assumption | with_reducible refine Below.drew ?_ | with_reducible refine below_drewN ?_ | with_reducible refine Below.setCell ?_ (by first | (simp; done) | (simp; omega)) _ | with_reducible refine Below.alloc ?_ (by first | exact Nat.le_refl _ | (simp; done) | (simp; omega)) _)))).mono ?_; rintro e w2 ⟨rfl, hw2⟩; (try (have z := (hw2.block W.heap.size (by simp)).trans (heap_new W (.cells #[.int .i64 0, .string ⟨#[]⟩, .string ⟨#[]⟩, .string ⟨#[]⟩, .slice none 0 0, .slice none 0 0, .bool false, .bool false] 61 (0, 0))); have z0 := cell_of z 0; have z1 := cell_of z 1; have z2 := cell_of z 2; have z3 := cell_of z 3; have z4 := cell_of z 4; have z5 := cell_of z 5; have z6 := cell_of z 6; have z7 := cell_of z 7; have zf := free_of z)); have HW2 : Hid (Below W.heap.size W w2) := hid (below_chain (by (repeat (first | exact Below.refl _ _ | assumption | with_reducible refine Below.drew ?_ | with_reducible refine below_drewN ?_ | with_reducible refine Below.setCell ?_ (by first | (simp; done) | (simp; omega)) _ | with_reducible refine Below.alloc ?_ (by first | exact Nat.le_refl _ | (simp; done) | (simp; omega)) _))) hw2 (by first | exact Nat.le_refl _ | (simp; done) | (simp; omega))); clear hw2)
  all_goals
    clear HT c0 n0 n1
    go_wp2
    go_ret
    refine ⟨rfl, ?_⟩
    have hb := HB.out.trans (HW2.out.mono HB.out.size)
    have hs := HB.out.size
    first
      | with_reducible exact hb.alloc hb.size _
      | ((repeat with_reducible refine Below.setCell ?_ hs _); exact hb)
end Go.Proofs.YtnngicopphiaaaaGreatDoor.T
