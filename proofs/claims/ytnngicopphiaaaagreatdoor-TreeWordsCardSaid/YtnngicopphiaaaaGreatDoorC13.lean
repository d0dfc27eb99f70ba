/- Part 13 of 51 of a proof: lemmas on the functions that it reaches. -/
import Derived.Test.YtnngicopphiaaaaGreatDoorC12
namespace Go.Burg
open Go Go.RowKit
def bytesL (L : List Kd) : List Value := L.map fun k => .int .u8 k.b
def kidsL (L : List Kd) : List Value := L.flatMap fun k => [.int .i64 k.s, .int .u32 k.g]
theorem bytesL_len (L : List Kd) : (bytesL L).length = L.length := by simp [bytesL]
theorem kidsL_len : ∀ L : List Kd, (kidsL L).length = L.length * 2
  | [] => rfl
  | k :: L => by
    have := kidsL_len L
    simp only [kidsL, List.flatMap_cons, List.length_append, List.length_cons, List.length_nil] at this ⊢
    omega
theorem bytesL_get {L : List Kd} {i : Nat} {k : Kd} (h : L[i]? = some k) : (bytesL L)[i]? = some (.int .u8 k.b) := by simp [bytesL, h]
theorem kidsL_get : ∀ {L : List Kd} {i : Nat} {k : Kd}, L[i]? = some k → (kidsL L)[i * 2]? = some (.int .i64 k.s) ∧ (kidsL L)[i * 2 + 1]? = some (.int .u32 k.g)
  | [], i, k, h => by simp at h
  | a :: L, 0, k, h => by
    simp at h
    subst h
    exact ⟨rfl, rfl⟩
  | a :: L, i + 1, k, h => by
    have := kidsL_get (L := L) (i := i) (by simpa using h)
    rw [show (i + 1) * 2 = i * 2 + 2 by omega]
    simpa [kidsL] using this
def Kd.ok (k : Kd) : Prop := (0 ≤ k.b ∧ k.b < 256) ∧ (0 ≤ k.s ∧ k.s < 4096) ∧ (1 ≤ k.g ∧ k.g ≤ 4294967295)
end Go.Burg
namespace Go.Proofs.YtnngicopphiaaaaGreatDoor.O
set_option maxRecDepth 8000
open Go.ChangeShapes Go.WideShapes Go.ChangeAt Go.RowKit Go.Burg
structure NodeIn (w : World) (k : Nat) (pt : ByteArray) (ya : Option Addr) (yn yc : Nat) (za : Option Addr) (zn zc : Nat) (L : List Kd) : Prop where
  b : w.ownsRow 0 5 1 (.slice ya yn yc) L.length (bytesL L)
  z : w.ownsRow 0 30 2 (.slice za zn zc) L.length (kidsL L)
  k1 : 2 ≤ k
  k2 : k ≤ 5
  p : pt.size ≤ 34
  len : L.length ≤ roomOf k
  rise : Rise L
  ok : ∀ x ∈ L, x.ok
theorem own_same {w w' : World} {e : TypeId} {s n : Nat} {v : Value} {xs : List Value} (h : w.ownsRow 0 e s v n xs) (hb : Below w.heap.size w w') : w'.ownsRow 0 e s v n xs := by
  obtain ⟨h1, h2 | ⟨g, cap, cur, a, b, c, d⟩⟩ := h
  · exact ⟨h1, .inl h2⟩
  · exact ⟨h1, .inr ⟨g, cap, cur, a, b, (hb.block g (lt_of_block c)).trans c, d⟩⟩
theorem own_len {w : World} {e : TypeId} {s n m c : Nat} {a : Option Addr} {xs : List Value} (h : w.ownsRow 0 e s (.slice a m c) n xs) : m = n := by
  obtain ⟨h1, ⟨h2, rfl⟩ | ⟨g, cap, cur, a, _⟩⟩ := h
  · simp at h2; exact h2.2.1
  · simp at a; exact a.2.1
theorem own_cells {w : World} {e : TypeId} {s n m c : Nat} {a : Option Addr} {xs : List Value} (h : w.ownsRow 0 e s (.slice a m c) n xs) (hn : 0 < n) : ∃ g, a = some ⟨g, 0, none⟩ ∧ g < w.heap.size ∧ ∀ j v, xs[j]? = some v → w.cell? ⟨g, j, none⟩ = some v := by
  have h' := h
  obtain ⟨h1, ⟨_, h2⟩ | ⟨g, cap, cur, ha, hb, hc, hd⟩⟩ := h
  · omega
  · simp only [Value.slice.injEq] at ha
    obtain ⟨rfl, rfl, rfl⟩ := ha
    refine ⟨g, rfl, lt_of_block hc, fun j v hj => ?_⟩
    have := h'.cellAt j (by rw [← h1]; exact (List.getElem?_eq_some_iff.1 hj).1)
    rw [this, hj]
section
variable {w w' : World} {k : Nat} {pt : ByteArray} {ya za : Option Addr} {yn yc zn zc : Nat} {L : List Kd}
theorem NodeIn.keep (h : NodeIn w k pt ya yn yc za zn zc L) (hb : Below w.heap.size w w') : NodeIn w' k pt ya yn yc za zn zc L := ⟨own_same h.b hb, own_same h.z hb, h.k1, h.k2, h.p, h.len, h.rise, h.ok⟩
theorem NodeIn.alloc (h : NodeIn w k pt ya yn yc za zn zc L) (o : Obj) : NodeIn (w.alloc o) k pt ya yn yc za zn zc L := h.keep ((Below.refl _ _).alloc (Nat.le_refl _) _)
theorem NodeIn.room (h : NodeIn w k pt ya yn yc za zn zc L) : L.length ≤ 256 := by
  have h1 := h.k1
  have h2 := h.k2
  have h3 := h.len
  rcases (by omega : k = 2 ∨ k = 3 ∨ k = 4 ∨ k = 5) with rfl | rfl | rfl | rfl <;> (simp [roomOf] at h3; omega)
theorem rising_at (h : NodeIn w k pt ya yn yc za zn zc L) : Calls Tryz.prog 134 #[(.agg #[.int .i64 k, .string ⟨#[]⟩, .string ⟨#[]⟩, .string pt, .slice ya yn yc, .slice za zn zc])] w fun e w' => e = .returned (.bool true) ∧ Below w.heap.size w w' := by
  have hA := h.alloc (.cells #[.int .i64 k, .string ⟨#[]⟩, .string ⟨#[]⟩, .string pt, .slice ya yn yc, .slice za zn zc] 136 (0, 0))
  have hN := heap_new w (.cells #[.int .i64 k, .string ⟨#[]⟩, .string ⟨#[]⟩, .string pt, .slice ya yn yc, .slice za zn zc] 136 (0, 0))
  have HYN : Hid (yn = L.length) := hid (own_len h.b)
  have hyl : yn ≤ 256 := by rw [HYN.out]; exact h.room
  have hB : Below w.heap.size w (w.alloc (.cells #[.int .i64 k, .string ⟨#[]⟩, .string ⟨#[]⟩, .string pt, .slice ya yn yc, .slice za zn zc] 136 (0, 0))) := (Below.refl _ _).alloc (Nat.le_refl _) _
  have hR := h.rise
  go_enter Tryz.func134, Tryz.ntmps134
  go_wp2_with fail
  clear h
  generalize hW : w.alloc (.cells #[.int .i64 k, .string ⟨#[]⟩, .string ⟨#[]⟩, .string pt, .slice ya yn yc, .slice za zn zc] 136 (0, 0)) = W at *
  generalize hu : w.heap.size = u at *
  have HA := hid hA
  have HN := hid hN
  have HU := hid hu
  have HB := hid hB
  have HR := hid hR
  clear hW hA hN hu hB hR
  go_loopw [3] (fun iv wr => ∃ j : Nat, 1 ≤ j ∧ j ≤ yn + 1 ∧ iv = .int .i64 j ∧ Below W.heap.size W wr) (fun iv _ => yn + 1 - (intOf iv).toNat)
  case atStart => exact ⟨1, Nat.le_refl _, by omega, rfl, Below.refl _ _⟩
  case round =>
    obtain ⟨j, h1, hj, rfl, hb⟩ := hrel
    have hk := (hb.block u (lt_of_block HN.out)).trans HN.out
    have c4 := cell_of hk 4
    have HK := hid hk
    have HBB := hid hb
    clear hk hb
    by_cases hlt : j < yn
    · obtain ⟨g, rfl, hgl, hg⟩ := own_cells HA.out.b (by rw [← HYN.out]; omega)
      have i1 : j < L.length := by have := HYN.out; omega
      have i2 : j - 1 < L.length := by omega
      have hx : L[j]? = some L[j] := List.getElem?_eq_getElem _
      have hy : L[j - 1]? = some L[j - 1] := List.getElem?_eq_getElem _
      have hlt2 : L[j - 1].b < L[j].b := List.pairwise_iff_getElem.1 HR.out _ _ i2 i1 (by omega)
      generalize L[j] = x at hx hlt2
      generalize L[j - 1] = y at hy hlt2
      clear i1 i2
      have q0 : wr.cell? ⟨g, j, none⟩ = some (.int .u8 x.b) := (World.cell?_of_block (w := W) (HBB.out.block g hgl)).trans (hg _ _ (bytesL_get hx))
      have q1 : wr.cell? ⟨g, j - 1, none⟩ = some (.int .u8 y.b) := (World.cell?_of_block (w := W) (HBB.out.block g hgl)).trans (hg _ _ (bytesL_get hy))
      have d0 : decide (yn ≤ j) = false := by simp; omega
      have d1 : decide (yn ≤ j - 1) = false := by simp; omega
      have d2 : decide (x.b ≤ y.b) = false := by simp; omega
      have ej : ((j : Int) - 1) = ((j - 1 : Nat) : Int) := by omega
      clear hx hy hlt2 hg
      go_wp2_with fail
      go_quiet (fail)
      go_wp2_with fail
      go_roundw
      case rel => exact ⟨j + 1, by omega, by omega, by go_num, ⟨HBB.out.os, HBB.out.tape, HBB.out.output, HBB.out.size, HBB.out.block⟩⟩
      case measure => simp [intOf]; omega
    · go_wp2_with fail
      go_ret
      refine ⟨rfl, ?_⟩
      rw [HU.out]
      exact HB.out.trans (HBB.out.mono (by have := HB.out.size; have := HU.out; omega))
theorem refs1_at (s g : Int) (w : World) (h1 : 0 ≤ s ∧ s < 4096) (h2 : 1 ≤ g) : Calls Tryz.prog 140 #[.agg #[.int .i64 s, .int .u32 g]] w fun e w' => e = .returned (.bool false) ∧ Below w.heap.size w w' := by
  have HK := hid (kid_at s g (w.alloc (.cells #[.int .i64 s, .int .u32 g] 30 (0, 0))) h1 h2)
  have HB : Hid (Below w.heap.size w (w.alloc (.cells #[.int .i64 s, .int .u32 g] 30 (0, 0)))) := hid ((Below.refl _ _).alloc (Nat.le_refl _) _)
  go_enter Tryz.func140, Tryz.ntmps140
  go_wp2_with (go_at_call 80; refine HK.out.mono ?_; rintro e w2 ⟨rfl, hB2⟩; have HB2 := hid hB2; clear hB2)
  go_ret
  exact ⟨rfl, HB.out.trans (HB2.out.mono HB.out.size)⟩
theorem rIdx_at (h : NodeIn w k pt ya yn yc za zn zc L) : Calls Tryz.prog 141 #[.slice za zn zc, .func (.func 140) #[] #[]] w fun e w' => e = .returned (.int .i64 (-1)) ∧ Below w.heap.size w w' := by
  have HZN : Hid (zn = L.length) := hid (own_len h.z)
  have hzl : zn ≤ 256 := by rw [HZN.out]; exact h.room
  have HA := hid h
  clear h
  go_enter Tryz.func141, Tryz.ntmps141
  go_wp2_with fail
  go_loopw [8] (fun iv wr => ∃ j : Nat, j ≤ zn ∧ iv = .int .i64 j ∧ Below w.heap.size w wr) (fun iv _ => zn - (intOf iv).toNat)
  case atStart => exact ⟨0, Nat.zero_le _, rfl, Below.refl _ _⟩
  case round =>
    obtain ⟨j, hj, rfl, hb⟩ := hrel
    have HBB := hid hb
    clear hb
    by_cases hlt : j < zn
    · obtain ⟨g, rfl, hgl, hg⟩ := own_cells HA.out.z (by rw [← HZN.out]; omega)
      have i1 : j < L.length := by have := HZN.out; omega
      have hx : L[j]? = some L[j] := List.getElem?_eq_getElem _
      have hok := HA.out.ok L[j] (List.getElem_mem _)
      generalize L[j] = x at hx hok
      have q0 : wr.cell? ⟨g, j * 2, none⟩ = some (.int .i64 x.s) := (World.cell?_of_block (w := w) (HBB.out.block g hgl)).trans (hg _ _ (kidsL_get hx).1)
      have q1 : wr.cell? ⟨g, j * 2 + 1, none⟩ = some (.int .u32 x.g) := (World.cell?_of_block (w := w) (HBB.out.block g hgl)).trans (hg _ _ (kidsL_get hx).2)
      have d0 : decide (zn ≤ j) = false := by simp; omega
      have HR := hid (refs1_at x.s x.g wr hok.2.1 hok.2.2.1)
      clear hx hok hg i1
      go_wp2_with (go_at_call 140; refine HR.out.mono ?_; rintro e w2 ⟨rfl, hB2⟩; have HB2 := hid hB2; clear hB2)
      go_roundw
      case rel => exact ⟨j + 1, by omega, by go_num, below_chain HBB.out HB2.out HBB.out.size⟩
      case measure => simp [intOf]; omega
    · go_wp2_with fail
      go_ret
      exact ⟨rfl, HBB.out⟩
theorem refs_at (h : NodeIn w k pt ya yn yc za zn zc L) : Calls Tryz.prog 135 #[(.agg #[.int .i64 k, .string ⟨#[]⟩, .string ⟨#[]⟩, .string pt, .slice ya yn yc, .slice za zn zc])] w fun e w' => e = .returned (.bool true) ∧ Below w.heap.size w w' := by
  have HI := hid (rIdx_at (h.alloc (.cells #[.int .i64 k, .string ⟨#[]⟩, .string ⟨#[]⟩, .string pt, .slice ya yn yc, .slice za zn zc] 136 (0, 0))))
  have HC : Hid (Calls Tryz.prog 139 #[.slice za zn zc, .func (.func 140) #[] #[]] (w.alloc (.cells #[.int .i64 k, .string ⟨#[]⟩, .string ⟨#[]⟩, .string pt, .slice ya yn yc, .slice za zn zc] 136 (0, 0))) fun e w' => e = .returned (.bool false) ∧ Below (w.alloc (.cells #[.int .i64 k, .string ⟨#[]⟩, .string ⟨#[]⟩, .string pt, .slice ya yn yc, .slice za zn zc] 136 (0, 0))).heap.size (w.alloc (.cells #[.int .i64 k, .string ⟨#[]⟩, .string ⟨#[]⟩, .string pt, .slice ya yn yc, .slice za zn zc] 136 (0, 0))) w') := hid (by
    clear h
    go_enter Tryz.func139, Tryz.ntmps139
    go_wp2_with (go_at_call 141; refine HI.out.mono ?_; rintro e w2 ⟨rfl, hB2⟩; have HB2 := hid hB2; clear hB2)
    go_ret
    exact ⟨rfl, HB2.out⟩)
  have HB : Hid (Below w.heap.size w (w.alloc (.cells #[.int .i64 k, .string ⟨#[]⟩, .string ⟨#[]⟩, .string pt, .slice ya yn yc, .slice za zn zc] 136 (0, 0)))) := hid ((Below.refl _ _).alloc (Nat.le_refl _) _)
  clear h HI
  go_enter Tryz.func135, Tryz.ntmps135
  go_wp2_with (go_at_call 139; refine HC.out.mono ?_; rintro e w2 ⟨rfl, hB2⟩; have HB2 := hid hB2; clear hB2)
  go_ret
  exact ⟨rfl, HB.out.trans (HB2.out.mono HB.out.size)⟩
theorem rowIn_new (w : World) (nv : Value) (fs : List Nat) : RowIn 23 (w.alloc (.cells (testsL nv fs).toArray 23 (0, 0))) w.heap.size (testsL nv fs) := ⟨_, heap_new _ _, fun _ _ => List.getElem?_toArray⟩
set_option maxHeartbeats 1000000 in
theorem isInner_at (h : NodeIn w k pt ya yn yc za zn zc L) (hr : RoomsAt w) : Calls Tryz.prog 119 #[(.agg #[.int .i64 k, .string ⟨#[]⟩, .string ⟨#[]⟩, .string pt, .slice ya yn yc, .slice za zn zc])] w fun e w' => e = .returned (.bool true) ∧ Below w.heap.size w w' := by
  have hmf : ∀ (fn : Fn) (first cap : Array Value) (w : World), (Instr.makeFunc fn first cap).run Tryz.prog w = .ok (.func fn first cap) w := fun _ _ _ _ => rfl
  have hs1 : (w.alloc (.cells #[.int .i64 k, .string ⟨#[]⟩, .string ⟨#[]⟩, .string pt, .slice ya yn yc, .slice za zn zc] 136 (0, 0))).heap.size = w.heap.size + 1 := by simp
  have hB : Below w.heap.size w ((w.alloc (.cells #[.int .i64 k, .string ⟨#[]⟩, .string ⟨#[]⟩, .string pt, .slice ya yn yc, .slice za zn zc] 136 (0, 0))).alloc (.cells #[.func (.func 131) #[(.agg #[.int .i64 k, .string ⟨#[]⟩, .string ⟨#[]⟩, .string pt, .slice ya yn yc, .slice za zn zc])] #[], .func (.func 132) #[(.agg #[.int .i64 k, .string ⟨#[]⟩, .string ⟨#[]⟩, .string pt, .slice ya yn yc, .slice za zn zc])] #[], .func (.func 133) #[(.agg #[.int .i64 k, .string ⟨#[]⟩, .string ⟨#[]⟩, .string pt, .slice ya yn yc, .slice za zn zc])] #[], .func (.func 134) #[(.agg #[.int .i64 k, .string ⟨#[]⟩, .string ⟨#[]⟩, .string pt, .slice ya yn yc, .slice za zn zc])] #[], .func (.func 135) #[(.agg #[.int .i64 k, .string ⟨#[]⟩, .string ⟨#[]⟩, .string pt, .slice ya yn yc, .slice za zn zc])] #[]] 23 (0, 0))) := ((Below.refl _ _).alloc (Nat.le_refl _) _).alloc (by simp) _
  have hN := rowIn_new (w.alloc (.cells #[.int .i64 k, .string ⟨#[]⟩, .string ⟨#[]⟩, .string pt, .slice ya yn yc, .slice za zn zc] 136 (0, 0))) (.agg #[.int .i64 k, .string ⟨#[]⟩, .string ⟨#[]⟩, .string pt, .slice ya yn yc, .slice za zn zc]) [131, 132, 133, 134, 135]
  have hk := h.k2
  have hk1 := h.k1
  have hp := h.p
  have hyz : yn = zn := (own_len h.b).trans (own_len h.z).symm
  have hzl : zn ≤ 256 := by rw [own_len h.z]; exact h.room
  have hT : Tests Tryz.prog ((w.alloc (.cells #[.int .i64 k, .string ⟨#[]⟩, .string ⟨#[]⟩, .string pt, .slice ya yn yc, .slice za zn zc] 136 (0, 0))).alloc (.cells #[.func (.func 131) #[(.agg #[.int .i64 k, .string ⟨#[]⟩, .string ⟨#[]⟩, .string pt, .slice ya yn yc, .slice za zn zc])] #[], .func (.func 132) #[(.agg #[.int .i64 k, .string ⟨#[]⟩, .string ⟨#[]⟩, .string pt, .slice ya yn yc, .slice za zn zc])] #[], .func (.func 133) #[(.agg #[.int .i64 k, .string ⟨#[]⟩, .string ⟨#[]⟩, .string pt, .slice ya yn yc, .slice za zn zc])] #[], .func (.func 134) #[(.agg #[.int .i64 k, .string ⟨#[]⟩, .string ⟨#[]⟩, .string pt, .slice ya yn yc, .slice za zn zc])] #[], .func (.func 135) #[(.agg #[.int .i64 k, .string ⟨#[]⟩, .string ⟨#[]⟩, .string pt, .slice ya yn yc, .slice za zn zc])] #[]] 23 (0, 0))) (.agg #[.int .i64 k, .string ⟨#[]⟩, .string ⟨#[]⟩, .string pt, .slice ya yn yc, .slice za zn zc]) [131, 132, 133, 134, 135] (fun _ => true) := by
    refine ⟨fun j f hj => ?_⟩
    have hb : ∀ w1, Below ((w.alloc (.cells #[.int .i64 k, .string ⟨#[]⟩, .string ⟨#[]⟩, .string pt, .slice ya yn yc, .slice za zn zc] 136 (0, 0))).alloc (.cells #[.func (.func 131) #[(.agg #[.int .i64 k, .string ⟨#[]⟩, .string ⟨#[]⟩, .string pt, .slice ya yn yc, .slice za zn zc])] #[], .func (.func 132) #[(.agg #[.int .i64 k, .string ⟨#[]⟩, .string ⟨#[]⟩, .string pt, .slice ya yn yc, .slice za zn zc])] #[], .func (.func 133) #[(.agg #[.int .i64 k, .string ⟨#[]⟩, .string ⟨#[]⟩, .string pt, .slice ya yn yc, .slice za zn zc])] #[], .func (.func 134) #[(.agg #[.int .i64 k, .string ⟨#[]⟩, .string ⟨#[]⟩, .string pt, .slice ya yn yc, .slice za zn zc])] #[], .func (.func 135) #[(.agg #[.int .i64 k, .string ⟨#[]⟩, .string ⟨#[]⟩, .string pt, .slice ya yn yc, .slice za zn zc])] #[]] 23 (0, 0))).heap.size _ w1 → Below w.heap.size w w1 := fun w1 h1 => hB.trans (h1.mono hB.size)
    rcases j with _ | _ | _ | _ | _ | j
    · cases hj; refine ⟨enters_of Tryz.func131 (by kernel_rfl) rfl, fun w1 h1 => ?_⟩
      have := inner_at (k := k) (cd := ⟨#[]⟩) (vl := ⟨#[]⟩) (pt := pt) (ya := ya) (yn := yn) (yc := yc) (za := za) (zn := zn) (zc := zc) w1 (hr.keep (hb w1 h1)) hk
      have e : decide (0 < roomOf k) = true := by rcases (by omega : k = 2 ∨ k = 3 ∨ k = 4 ∨ k = 5) with rfl | rfl | rfl | rfl <;> rfl
      rwa [e] at this
    · cases hj; exact ⟨enters_of Tryz.func132 (by kernel_rfl) rfl, fun w1 _ => bare_at w1 hp⟩
    · cases hj; exact ⟨enters_of Tryz.func133 (by kernel_rfl) rfl, fun w1 _ => paired_at w1 hyz hzl⟩
    · cases hj; exact ⟨enters_of Tryz.func134 (by kernel_rfl) rfl, fun w1 h1 => rising_at (h.keep (hb w1 h1))⟩
    · cases hj; exact ⟨enters_of Tryz.func135 (by kernel_rfl) rfl, fun w1 h1 => refs_at (h.keep (hb w1 h1))⟩
    · simp at hj
  rw [hs1] at hN
  have HAL := hid (all_at (n := 5) (cp := 5) _ rfl (by decide) hT hN)
  have HB := hid hB
  clear hT hN hB hs1 hk hk1 hp hyz hzl h hr
  go_enter Tryz.func119, Tryz.ntmps119
  go_wp2_with (go_at_call 118; refine HAL.out.mono ?_; rintro e w2 ⟨rfl, hB2⟩; have HB2 := hid hB2; clear hB2)
  go_ret
  exact ⟨rfl, HB.out.trans (HB2.out.mono HB.out.size)⟩
end
end Go.Proofs.YtnngicopphiaaaaGreatDoor.O

namespace Go.Proofs.YtnngicopphiaaaaGreatDoor.O
set_option maxRecDepth 8000
open Go.ChangeShapes Go.WideShapes Go.ChangeAt Go.RowKit Go.Burg
def isRightB (k n : Nat) : Bool := decide (1 < n) && decide (kindOf n = k)
section
variable {w w' : World} {k : Nat} {pt : ByteArray} {ya za : Option Addr} {yn yc zn zc : Nat} {L : List Kd}
set_option maxHeartbeats 1000000 in
theorem isRight_at (h : NodeIn w k pt ya yn yc za zn zc L) (hr : RoomsAt w) : Calls Tryz.prog 108 #[(.agg #[.int .i64 k, .string ⟨#[]⟩, .string ⟨#[]⟩, .string pt, .slice ya yn yc, .slice za zn zc])] w fun e w' => e = .returned (.bool (isRightB k zn)) ∧ Below w.heap.size w w' := by
  have hmf : ∀ (fn : Fn) (first cap : Array Value) (w : World), (Instr.makeFunc fn first cap).run Tryz.prog w = .ok (.func fn first cap) w := fun _ _ _ _ => rfl
  have hs1 : (w.alloc (.cells #[.int .i64 k, .string ⟨#[]⟩, .string ⟨#[]⟩, .string pt, .slice ya yn yc, .slice za zn zc] 136 (0, 0))).heap.size = w.heap.size + 1 := by simp
  have hB : Below w.heap.size w ((w.alloc (.cells #[.int .i64 k, .string ⟨#[]⟩, .string ⟨#[]⟩, .string pt, .slice ya yn yc, .slice za zn zc] 136 (0, 0))).alloc (.cells #[.func (.func 119) #[(.agg #[.int .i64 k, .string ⟨#[]⟩, .string ⟨#[]⟩, .string pt, .slice ya yn yc, .slice za zn zc])] #[], .func (.func 120) #[(.agg #[.int .i64 k, .string ⟨#[]⟩, .string ⟨#[]⟩, .string pt, .slice ya yn yc, .slice za zn zc])] #[], .func (.func 121) #[(.agg #[.int .i64 k, .string ⟨#[]⟩, .string ⟨#[]⟩, .string pt, .slice ya yn yc, .slice za zn zc])] #[]] 23 (0, 0))) := ((Below.refl _ _).alloc (Nat.le_refl _) _).alloc (by simp) _
  have hN := rowIn_new (w.alloc (.cells #[.int .i64 k, .string ⟨#[]⟩, .string ⟨#[]⟩, .string pt, .slice ya yn yc, .slice za zn zc] 136 (0, 0))) (.agg #[.int .i64 k, .string ⟨#[]⟩, .string ⟨#[]⟩, .string pt, .slice ya yn yc, .slice za zn zc]) [119, 120, 121]
  have hzl : zn ≤ 256 := by rw [own_len h.z]; exact h.room
  have hT : Tests Tryz.prog ((w.alloc (.cells #[.int .i64 k, .string ⟨#[]⟩, .string ⟨#[]⟩, .string pt, .slice ya yn yc, .slice za zn zc] 136 (0, 0))).alloc (.cells #[.func (.func 119) #[(.agg #[.int .i64 k, .string ⟨#[]⟩, .string ⟨#[]⟩, .string pt, .slice ya yn yc, .slice za zn zc])] #[], .func (.func 120) #[(.agg #[.int .i64 k, .string ⟨#[]⟩, .string ⟨#[]⟩, .string pt, .slice ya yn yc, .slice za zn zc])] #[], .func (.func 121) #[(.agg #[.int .i64 k, .string ⟨#[]⟩, .string ⟨#[]⟩, .string pt, .slice ya yn yc, .slice za zn zc])] #[]] 23 (0, 0))) (.agg #[.int .i64 k, .string ⟨#[]⟩, .string ⟨#[]⟩, .string pt, .slice ya yn yc, .slice za zn zc]) [119, 120, 121] (fun j => [true, decide (1 < zn), decide (kindOf zn = k)].getD j true) := by
    refine ⟨fun j f hj => ?_⟩
    have hb : ∀ w1, Below (((w.alloc (.cells #[.int .i64 k, .string ⟨#[]⟩, .string ⟨#[]⟩, .string pt, .slice ya yn yc, .slice za zn zc] 136 (0, 0))).alloc (.cells #[.func (.func 119) #[(.agg #[.int .i64 k, .string ⟨#[]⟩, .string ⟨#[]⟩, .string pt, .slice ya yn yc, .slice za zn zc])] #[], .func (.func 120) #[(.agg #[.int .i64 k, .string ⟨#[]⟩, .string ⟨#[]⟩, .string pt, .slice ya yn yc, .slice za zn zc])] #[], .func (.func 121) #[(.agg #[.int .i64 k, .string ⟨#[]⟩, .string ⟨#[]⟩, .string pt, .slice ya yn yc, .slice za zn zc])] #[]] 23 (0, 0)))).heap.size ((w.alloc (.cells #[.int .i64 k, .string ⟨#[]⟩, .string ⟨#[]⟩, .string pt, .slice ya yn yc, .slice za zn zc] 136 (0, 0))).alloc (.cells #[.func (.func 119) #[(.agg #[.int .i64 k, .string ⟨#[]⟩, .string ⟨#[]⟩, .string pt, .slice ya yn yc, .slice za zn zc])] #[], .func (.func 120) #[(.agg #[.int .i64 k, .string ⟨#[]⟩, .string ⟨#[]⟩, .string pt, .slice ya yn yc, .slice za zn zc])] #[], .func (.func 121) #[(.agg #[.int .i64 k, .string ⟨#[]⟩, .string ⟨#[]⟩, .string pt, .slice ya yn yc, .slice za zn zc])] #[]] 23 (0, 0))) w1 → Below w.heap.size w w1 := fun w1 h1 => hB.trans (h1.mono hB.size)
    rcases j with _ | _ | _ | j
    · cases hj; exact ⟨enters_of Tryz.func119 (by kernel_rfl) rfl, fun w1 h1 => isInner_at (h.keep (hb w1 h1)) (hr.keep (hb w1 h1))⟩
    · cases hj; exact ⟨enters_of Tryz.func120 (by kernel_rfl) rfl, fun w1 h1 => many_at w1⟩
    · cases hj; exact ⟨enters_of Tryz.func121 (by kernel_rfl) rfl, fun w1 h1 => fits_at w1 (hr.keep (hb w1 h1)) (by omega)⟩
    · simp at hj
  rw [hs1] at hN
  have HAL := hid (all_at (n := 3) (cp := 3) _ rfl (by decide) hT hN)
  have e : (List.range 3).all (fun j => [true, decide (1 < zn), decide (kindOf zn = k)].getD j true) = isRightB k zn := by simp [isRightB, List.range_succ]
  rw [e] at HAL
  have HB := hid hB
  clear hT hN hB hs1 hzl h hr e
  go_enter Tryz.func108, Tryz.ntmps108
  go_wp2_with (go_at_call 118; refine HAL.out.mono ?_; rintro e w2 ⟨rfl, hB2⟩; have HB2 := hid hB2; clear hB2)
  go_ret
  exact ⟨rfl, HB.out.trans (HB2.out.mono HB.out.size)⟩
set_option maxHeartbeats 1000000 in
theorem isAnchor_at (h : NodeIn w k pt ya yn yc za zn zc L) (hr : RoomsAt w) (hk : k = 5) (hp : pt = ⟨#[]⟩) : Calls Tryz.prog 109 #[(.agg #[.int .i64 k, .string ⟨#[]⟩, .string ⟨#[]⟩, .string pt, .slice ya yn yc, .slice za zn zc])] w fun e w' => e = .returned (.bool true) ∧ Below w.heap.size w w' := by
  have hmf : ∀ (fn : Fn) (first cap : Array Value) (w : World), (Instr.makeFunc fn first cap).run Tryz.prog w = .ok (.func fn first cap) w := fun _ _ _ _ => rfl
  have hs1 : (w.alloc (.cells #[.int .i64 k, .string ⟨#[]⟩, .string ⟨#[]⟩, .string pt, .slice ya yn yc, .slice za zn zc] 136 (0, 0))).heap.size = w.heap.size + 1 := by simp
  have hB : Below w.heap.size w ((w.alloc (.cells #[.int .i64 k, .string ⟨#[]⟩, .string ⟨#[]⟩, .string pt, .slice ya yn yc, .slice za zn zc] 136 (0, 0))).alloc (.cells #[.func (.func 119) #[(.agg #[.int .i64 k, .string ⟨#[]⟩, .string ⟨#[]⟩, .string pt, .slice ya yn yc, .slice za zn zc])] #[], .func (.func 122) #[(.agg #[.int .i64 k, .string ⟨#[]⟩, .string ⟨#[]⟩, .string pt, .slice ya yn yc, .slice za zn zc])] #[]] 23 (0, 0))) := ((Below.refl _ _).alloc (Nat.le_refl _) _).alloc (by simp) _
  have hN := rowIn_new (w.alloc (.cells #[.int .i64 k, .string ⟨#[]⟩, .string ⟨#[]⟩, .string pt, .slice ya yn yc, .slice za zn zc] 136 (0, 0))) (.agg #[.int .i64 k, .string ⟨#[]⟩, .string ⟨#[]⟩, .string pt, .slice ya yn yc, .slice za zn zc]) [119, 122]
  have hT : Tests Tryz.prog ((w.alloc (.cells #[.int .i64 k, .string ⟨#[]⟩, .string ⟨#[]⟩, .string pt, .slice ya yn yc, .slice za zn zc] 136 (0, 0))).alloc (.cells #[.func (.func 119) #[(.agg #[.int .i64 k, .string ⟨#[]⟩, .string ⟨#[]⟩, .string pt, .slice ya yn yc, .slice za zn zc])] #[], .func (.func 122) #[(.agg #[.int .i64 k, .string ⟨#[]⟩, .string ⟨#[]⟩, .string pt, .slice ya yn yc, .slice za zn zc])] #[]] 23 (0, 0))) (.agg #[.int .i64 k, .string ⟨#[]⟩, .string ⟨#[]⟩, .string pt, .slice ya yn yc, .slice za zn zc]) [119, 122] (fun _ => true) := by
    refine ⟨fun j f hj => ?_⟩
    have hb : ∀ w1, Below (((w.alloc (.cells #[.int .i64 k, .string ⟨#[]⟩, .string ⟨#[]⟩, .string pt, .slice ya yn yc, .slice za zn zc] 136 (0, 0))).alloc (.cells #[.func (.func 119) #[(.agg #[.int .i64 k, .string ⟨#[]⟩, .string ⟨#[]⟩, .string pt, .slice ya yn yc, .slice za zn zc])] #[], .func (.func 122) #[(.agg #[.int .i64 k, .string ⟨#[]⟩, .string ⟨#[]⟩, .string pt, .slice ya yn yc, .slice za zn zc])] #[]] 23 (0, 0)))).heap.size ((w.alloc (.cells #[.int .i64 k, .string ⟨#[]⟩, .string ⟨#[]⟩, .string pt, .slice ya yn yc, .slice za zn zc] 136 (0, 0))).alloc (.cells #[.func (.func 119) #[(.agg #[.int .i64 k, .string ⟨#[]⟩, .string ⟨#[]⟩, .string pt, .slice ya yn yc, .slice za zn zc])] #[], .func (.func 122) #[(.agg #[.int .i64 k, .string ⟨#[]⟩, .string ⟨#[]⟩, .string pt, .slice ya yn yc, .slice za zn zc])] #[]] 23 (0, 0))) w1 → Below w.heap.size w w1 := fun w1 h1 => hB.trans (h1.mono hB.size)
    rcases j with _ | _ | j
    · cases hj; exact ⟨enters_of Tryz.func119 (by kernel_rfl) rfl, fun w1 h1 => isInner_at (h.keep (hb w1 h1)) (hr.keep (hb w1 h1))⟩
    · cases hj; exact ⟨enters_of Tryz.func122 (by kernel_rfl) rfl, fun w1 h1 => top_at w1 hk hp⟩
    · simp at hj
  rw [hs1] at hN
  have HAL := hid (all_at (n := 2) (cp := 2) _ rfl (by decide) hT hN)
  have HB := hid hB
  clear hT hN hB hs1 h hr hk hp
  go_enter Tryz.func109, Tryz.ntmps109
  go_wp2_with (go_at_call 118; refine HAL.out.mono ?_; rintro e w2 ⟨rfl, hB2⟩; have HB2 := hid hB2; clear hB2)
  go_ret
  exact ⟨rfl, HB.out.trans (HB2.out.mono HB.out.size)⟩
def MayB (k n : Nat) (pt : ByteArray) : Prop := isRightB k n = true ∨ (k = 5 ∧ pt = ⟨#[]⟩)
theorem may_at (h : NodeIn w k pt ya yn yc za zn zc L) (hr : RoomsAt w) (hm : MayB k zn pt) : Calls Tryz.prog 79 #[(.agg #[.int .i64 k, .string ⟨#[]⟩, .string ⟨#[]⟩, .string pt, .slice ya yn yc, .slice za zn zc])] w fun e w' => e = .returned (.bool true) ∧ Below w.heap.size w w' := by
  have hA := h.alloc (.cells #[.int .i64 k, .string ⟨#[]⟩, .string ⟨#[]⟩, .string pt, .slice ya yn yc, .slice za zn zc] 136 (0, 0))
  have hN := heap_new w (.cells #[.int .i64 k, .string ⟨#[]⟩, .string ⟨#[]⟩, .string pt, .slice ya yn yc, .slice za zn zc] 136 (0, 0))
  have hrA := hr.alloc (.cells #[.int .i64 k, .string ⟨#[]⟩, .string ⟨#[]⟩, .string pt, .slice ya yn yc, .slice za zn zc] 136 (0, 0))
  have hB : Below w.heap.size w (w.alloc (.cells #[.int .i64 k, .string ⟨#[]⟩, .string ⟨#[]⟩, .string pt, .slice ya yn yc, .slice za zn zc] 136 (0, 0))) := (Below.refl _ _).alloc (Nat.le_refl _) _
  have HI := hid (isRight_at hA hrA)
  have HB := hid hB
  cases hb : isRightB k zn
  · have hk5 : k = 5 ∧ pt = ⟨#[]⟩ := by rcases hm with hm | hm; (rw [hb] at hm; cases hm); exact hm
    rw [hb] at HI
    have HAN := hid (fun (w1 : World) (h1 : Below (w.alloc (.cells #[.int .i64 k, .string ⟨#[]⟩, .string ⟨#[]⟩, .string pt, .slice ya yn yc, .slice za zn zc] 136 (0, 0))).heap.size (w.alloc (.cells #[.int .i64 k, .string ⟨#[]⟩, .string ⟨#[]⟩, .string pt, .slice ya yn yc, .slice za zn zc] 136 (0, 0))) w1) => isAnchor_at (hA.keep h1) (hrA.keep h1) hk5.1 hk5.2)
    have HN := hid hN
    have HK := hid hk5
    clear h hA hN hrA hB hm hb hk5 hr
    go_enter Tryz.func79, Tryz.ntmps79
    go_wp2_with (first | (go_at_call 108; refine HI.out.mono ?_; rintro e w2 ⟨rfl, hB2⟩; have hk := (hB2.block w.heap.size (by simp)).trans HN.out; have c0 := cell_of hk 0; have c1 := cell_of hk 1; have c2 := cell_of hk 2; have c3 := cell_of hk 3; have c4 := cell_of hk 4; have c5 := cell_of hk 5; have HAN2 := hid (HAN.out _ hB2); have HB2 := hid hB2; clear hk hB2) | (go_at_call 109; refine HAN2.out.mono ?_; rintro e w3 ⟨rfl, hB3⟩; have HB3 := hid hB3; clear hB3))
    go_ret
    exact ⟨rfl, (HB.out.trans (HB2.out.mono HB.out.size)).trans (HB3.out.mono (Nat.le_trans HB.out.size HB2.out.size))⟩
  · rw [hb] at HI
    clear h hA hN hrA hB hm hb hr
    go_enter Tryz.func79, Tryz.ntmps79
    go_wp2_with (go_at_call 108; refine HI.out.mono ?_; rintro e w2 ⟨rfl, hB2⟩; have HB2 := hid hB2; clear hB2)
    go_ret
    exact ⟨rfl, HB.out.trans (HB2.out.mono HB.out.size)⟩
end
end Go.Proofs.YtnngicopphiaaaaGreatDoor.O

namespace Go.Proofs.YtnngicopphiaaaaGreatDoor.O
set_option maxRecDepth 8000
open Go.ChangeShapes Go.WideShapes Go.ChangeAt Go.RowKit Go.Burg
def KidsAt (B : Nat) (w : World) (v : Value) (L : List Kd) (r : Nat) : Prop :=
  (∃ x, B ≤ x ∧ v = .iface 195 (.pointer (some ⟨x, 0, none⟩)) ∧ FewL 212 w x L r) ∨ (∃ x gr gu, (B ≤ x ∧ B ≤ gr ∧ B ≤ gu) ∧ v = .iface 198 (.pointer (some ⟨x, 0, none⟩)) ∧ ManyL 219 30 4 w x gr gu r L)
theorem fewNew_no (r : Nat) (hr : r = 48 ∨ r = 256) (w : World) : Calls Tryz.prog 123 #[.int .i64 r] w fun e w' => e = .returned (.tuple #[.pointer none, .int .i64 2]) ∧ w = w' := by
  rcases hr with rfl | rfl
  · go_enter Tryz.func123, Tryz.ntmps123; go_wp2; go_ret2; exact ⟨rfl, rfl⟩
  · go_enter Tryz.func123, Tryz.ntmps123; go_wp2; go_ret2; exact ⟨rfl, rfl⟩
theorem row_at (r : Nat) (hr : r = 4 ∨ r = 16 ∨ r = 48 ∨ r = 256) (w : World) : Calls Tryz.prog 111 #[.int .i64 r] w fun e w' => ∃ v, e = .returned v ∧ KidsAt w.heap.size w' v [] r ∧ Below w.heap.size w w' := by
  by_cases hf : r = 4 ∨ r = 16
  · have HN := hid (F.fNew_L r hf w)
    clear hr hf
    go_enter Tryz.func111, Tryz.ntmps111
    go_wp2_with (go_at_call 123; refine HN.out.mono ?_; rintro e w2 ⟨rfl, hL, hB⟩; have HL := hid hL; have HB := hid hB; clear hL hB)
    go_ret
    exact ⟨_, rfl, .inl ⟨_, Nat.le_refl _, rfl, HL.out⟩, HB.out⟩
  · have hm : r = 48 ∨ r = 256 := by omega
    have HN := hid (fewNew_no r hm w)
    rcases hm with rfl | rfl
    · have HM := hid (M.mNew48 w)
      clear hr hf
      go_enter Tryz.func111, Tryz.ntmps111
      go_wp2_with (first | (go_at_call 123; refine HN.out.mono ?_; rintro e w2 ⟨rfl, rfl⟩) | (go_at_call 124; refine HM.out.mono ?_; rintro e w2 ⟨x, gr, gu, rfl, hL, hl, hB⟩; have HL := hid hL; have HB := hid hB; have HLL := hid hl; clear hL hB hl))
      go_ret
      exact ⟨_, rfl, .inr ⟨x, gr, gu, HLL.out, rfl, HL.out⟩, HB.out⟩
    · have HM := hid (M.mNew256 w)
      clear hr hf
      go_enter Tryz.func111, Tryz.ntmps111
      go_wp2_with (first | (go_at_call 123; refine HN.out.mono ?_; rintro e w2 ⟨rfl, rfl⟩) | (go_at_call 124; refine HM.out.mono ?_; rintro e w2 ⟨x, gr, gu, rfl, hL, hl, hB⟩; have HL := hid hL; have HB := hid hB; have HLL := hid hl; clear hL hB hl))
      go_ret
      exact ⟨_, rfl, .inr ⟨x, gr, gu, HLL.out, rfl, HL.out⟩, HB.out⟩
end Go.Proofs.YtnngicopphiaaaaGreatDoor.O
