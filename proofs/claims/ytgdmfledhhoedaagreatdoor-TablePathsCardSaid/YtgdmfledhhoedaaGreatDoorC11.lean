/- Part 11 of 26. -/
import Derived.Test.YtgdmfledhhoedaaGreatDoorC10
import Derived.Maps.OwnIn
import Derived.Laws.IdiomStrings
import Derived.ScopeJumps
import Derived.WalkMore
import Derived.Test.YtgdmfledhhoedaaGreatDoorC09
import Derived.Test.YtgdmfledhhoedaaGreatDoorC01
import Derived.BigQuiet
import Derived.Maps.AppendAt
namespace Go.Burg
open Go Go.RowKit
def u8L (l : List UInt8) : List Value := l.map fun x => .int .u8 (x.toNat : Int)
theorem u8L_snoc (l : List UInt8) (x : UInt8) : u8L (l ++ [x]) = u8L l ++ [.int .u8 (x.toNat : Int)] := by simp [u8L]
end Go.Burg
namespace Go.Proofs.YtgdmfledhhoedaaGreatDoor.D
set_option maxRecDepth 8000
open Go.ChangeShapes Go.WideShapes Go.ChangeAt Go.RowKit Go.Burg Go.Shelf
def MineAt (o : Nat) (W : World) (i : Nat) : Prop := ∃ n c, W.cell? ⟨o, 0, none⟩ = some (.slice (some ⟨i, 0, none⟩) n c)
variable {B k n n₀ s : Nat}
theorem mineAt_ok {o : Nat} (h : o < n₀) : MineOk n₀ (MineAt o) := ⟨fun {W W' row i} hn hg hr hm => by
 have e : W'.heap[o]? = W.heap[o]? := hg.block o (by omega) (fun e => by have := (hr _ e.symm).1; omega)
 obtain ⟨n, c, hm⟩ := hm
 exact ⟨n, c, (World.cell?_of_block (w := W) e).symm.trans hm⟩⟩
structure DcI (u : Nat) (w : World) (pre : List UInt8) (W : World) : Prop where
 s : W.heap[u]? = some (.cells #[.string ⟨#[]⟩] 9 (0, 0))
 e : W.heap[u + 1]? = some (.cells #[.int .i64 0] 29 (0, 0))
 o : ∃ v, W.heap[u + 1 + 1 + 1]? = some (.cells #[v] 23 (0, 0)) /\ W.ownsRow (u + 1 + 1 + 1 + 1) 5 1 v pre.length (u8L pre)
 b : Below u w W
 z : u + 1 + 1 + 1 + 1 + 1 <= W.heap.size
variable {xs : List Value} {S : Nat -> Prop} {e : TypeId} {v : Value} {w : World}
section
variable {u : Nat} {w W W' : World} {pre : List UInt8}
theorem own_blk {A : World} {e : Nat} (h : A.ownsRow B e s v n xs) (hk : v.ownBlock = some k) : ∃ n' c, v = .slice (some ⟨k, 0, none⟩) n' c /\ ∃ o : Obj, A.heap[k]? = some o /\ o.isCells = true := by
 obtain ⟨_, ⟨rfl, _⟩ | ⟨g, cap, cur, rfl, _, hg, _⟩⟩ := h
 ·simp [Value.ownBlock] at hk
 ·simp only [Value.ownBlock, Option.some.injEq] at hk; subst hk; exact ⟨_, _, rfl, _, hg, rfl⟩
theorem own_ge' (h : w.ownsRow B e s v n xs) (hk : v.ownBlock = some k) : B <= k /\ k < w.heap.size := h.lt k hk
theorem own_mod' {w' : World} (h : w.ownsRow B e s v n xs) (hM : Mod S w w') (hs : ∀ k, v.ownBlock = some k -> ¬ S k) : w'.ownsRow B e s v n xs := by
 have h' := h
 obtain ⟨h1, h2 | ⟨g, cap, cur, a, b, c, d⟩⟩ := h
 ·exact ⟨h1, .inl h2⟩
 ·exact ⟨h1, .inr ⟨g, cap, cur, a, b, (hM.block g (lt_of_block c) (hs g (by rw [a]; rfl))).trans c, d⟩⟩
theorem DcI.mod (h : DcI u w pre W) (hM : Mod S W W') (h0 : ∀ k, S k -> u <= k /\ k ≠ u /\ k ≠ u + 1 /\ k ≠ u + 1 + 1 + 1)
 (hr : ∀ v, W.ownsRow (u + 1 + 1 + 1 + 1) 5 1 v pre.length (u8L pre) -> ∀ k, v.ownBlock = some k -> ¬ S k) : DcI u w pre W' := by
 obtain ⟨v, h1, h2⟩ := h.o
 have hb := h.b
 refine ⟨(hM.block u (lt_of_block h.s) (fun e => (h0 _ e).2.1 rfl)).trans h.s, (hM.block _ (lt_of_block h.e) (fun e => (h0 _ e).2.2.1 rfl)).trans h.e, ⟨v, (hM.block _ (lt_of_block h1) (fun e => (h0 _ e).2.2.2 rfl)).trans h1, own_mod' h2 hM (hr v h2)⟩, ?_, Nat.le_trans h.z hM.size⟩
 exact hb.trans ⟨hM.os, hM.tape, hM.output, hM.size, fun k hk => hM.block k (by have := lt_of_block h.s; omega) (fun e => by have := (h0 k e).1; omega)⟩
theorem DcI.abR : AbR (u + 1 + 1) (DcI u w) := fun s A B h hM => h.mod hM (fun k e => by have : k = u + 1 + 1 := e; omega) (fun v hv k hk e => by have : k = u + 1 + 1 := e; have := (own_ge' hv hk).1; omega)
theorem DcI.own (hn : u + 1 + 1 + 1 + 1 <= n₀) : OwnFrom n₀ (DcI u w) := by
 rintro s A C row h hg hr
 have hMo : Mod (fun k => row = some k) A C := ⟨hg.os, hg.tape, hg.output, hg.size, fun k hk hn => hg.block k hk (fun e => hn e.symm)⟩
 refine h.mod hMo (fun k e => by have := (hr k e).1; omega) (fun v hv k hk e => ?_)
 obtain ⟨_, o, ho, hoc⟩ := hr k e
 obtain ⟨_, _, _, o2, h2, h3⟩ := own_blk hv hk
 rw [ho] at h2
 cases h2
 rw [hoc] at h3
 cases h3
theorem DcI.round {x : UInt8} {v' : Value} {w2 : World} (h : DcI u w pre W) (h1 : W.heap[u + 1 + 1 + 1]? = some (.cells #[v] 23 (0, 0))) (hv : W.ownsRow (u + 1 + 1 + 1 + 1) 5 1 v pre.length (u8L pre))
 {o' : Obj} (g1 : w2.ownsRow (u + 1 + 1 + 1 + 1) 5 1 v' (pre.length + 1) (u8L pre ++ [.int .u8 (x.toNat : Int)])) (g2 : (W.alloc o').grownBy w2 v.ownBlock) (g4 : v'.ownBlock = v.ownBlock \/ v'.ownBlock = some (W.heap.size + 1)) :
 w2.heap[u + 1 + 1 + 1]? = some (.cells #[v] 23 (0, 0)) /\ DcI u w (pre ++ [x]) (w2.setCell ⟨u + 1 + 1 + 1, 0, none⟩ v') /\ (w2.setCell ⟨u + 1 + 1 + 1, 0, none⟩ v').heap[u + 1 + 1 + 1]? = some (.cells #[v'] 23 (0, 0)) /\
  KeepsFrom (u + 1 + 1 + 1 + 1 + 1) W (w2.setCell ⟨u + 1 + 1 + 1, 0, none⟩ v') /\ KpM (u + 1 + 1 + 1 + 1) (MineAt (u + 1 + 1 + 1)) W (w2.setCell ⟨u + 1 + 1 + 1, 0, none⟩ v') /\ (w2.setCell ⟨u + 1 + 1 + 1, 0, none⟩ v').heap[u + 1 + 1]? = W.heap[u + 1 + 1]? := by
 have hA : Mod (fun _ => False) W (W.alloc o') := ⟨rfl, rfl, rfl, by simp, fun k hk _ => Below.heap_alloc _ _ _ hk⟩
 have hG : Mod (fun k => v.ownBlock = some k) (W.alloc o') w2 := ⟨g2.os, g2.tape, g2.output, g2.size, fun k hk hn => g2.block k hk (fun e => hn e.symm)⟩
 have hW2 : Mod (fun k => v.ownBlock = some k) W w2 := (hA.mono fun _ _ h => h.elim).trans hG (fun _ _ h => h)
 have hM : Mod (fun k => v.ownBlock = some k \/ k = u + 1 + 1 + 1) W (w2.setCell ⟨u + 1 + 1 + 1, 0, none⟩ v') := Mod.setCell (S := fun k => v.ownBlock = some k \/ k = u + 1 + 1 + 1) (p := ⟨u + 1 + 1 + 1, 0, none⟩) (hW2.mono fun _ _ h => .inl h) (.inl (.inr rfl)) _
 have hge : ∀ k, v.ownBlock = some k -> u + 1 + 1 + 1 + 1 <= k := fun k hk => (own_ge' hv hk).1
 have ho2 : w2.heap[u + 1 + 1 + 1]? = some (.cells #[v] 23 (0, 0)) := (hW2.block _ (lt_of_block h1) (fun e => by have := hge _ e; omega)).trans h1
 have ho3 : (w2.setCell ⟨u + 1 + 1 + 1, 0, none⟩ v').heap[u + 1 + 1 + 1]? = some (.cells #[v'] 23 (0, 0)) := by
  have := heap_set (i := 0) (v := v') ho2
  simpa using this
 have hz := h.z
 have hsA : (W.alloc o').heap.size = W.heap.size + 1 := by simp
 have hge2 : ∀ k, v'.ownBlock = some k -> u + 1 + 1 + 1 + 1 <= k := fun k hk => (own_ge' g1 hk).1
 have hMs : Mod (· = u + 1 + 1 + 1) w2 (w2.setCell ⟨u + 1 + 1 + 1, 0, none⟩ v') := Mod.setCell (S := (· = u + 1 + 1 + 1)) (p := ⟨u + 1 + 1 + 1, 0, none⟩) (Mod.refl _ _) (.inl rfl) _
 have hx : ∀ k, v.ownBlock = some k \/ k = u + 1 + 1 + 1 -> u + 1 + 1 + 1 <= k := fun k e => e.elim (fun e => by have := hge k e; omega) (fun e => by omega)
 refine ⟨ho2, ⟨?_, ?_, ⟨v', ho3, ?_⟩, ?_, Nat.le_trans hz hM.size⟩, ho3, ⟨hM.size, fun k o hk hok hoc => ?_⟩, ⟨hM.size, fun i o hi hm hok hoc => ?_, fun i hm => ?_⟩, ?_⟩
 ·exact (hM.block u (lt_of_block h.s) (fun e => by have := hx _ e; omega)).trans h.s
 ·exact (hM.block _ (lt_of_block h.e) (fun e => by have := hx _ e; omega)).trans h.e
 ·rw [u8L_snoc, List.length_append]
  exact own_mod' g1 hMs (fun k hk e => by have := hge2 k hk; have : k = u + 1 + 1 + 1 := e; omega)
 ·exact h.b.trans ⟨hM.os, hM.tape, hM.output, hM.size, fun k hk => hM.block k (by omega) (fun e => by have := hx _ e; omega)⟩
 ·refine (hM.block k (lt_of_block hok) (fun e => ?_)).trans hok
  rcases e with e | e
  ·obtain ⟨_, _, _, o2, h2, h3⟩ := own_blk hv e
   rw [hok] at h2
   cases h2
   rw [hoc] at h3
   cases h3
  ·omega
 ·refine (hM.block i (lt_of_block hok) (fun e => ?_)).trans hok
  rcases e with e | e
  ·obtain ⟨n', c, e2, _⟩ := own_blk hv e
   exact hm ⟨n', c, by rw [cell_of h1 0, e2]; rfl⟩
  ·omega
 ·obtain ⟨n, c, hm⟩ := hm
  rw [cell_of ho3 0] at hm
  have e : v' = .slice (some ⟨i, 0, none⟩) n c := by simpa using hm
  rw [e] at g4
  rcases g4 with g4 | g4
  ·obtain ⟨n', c', e2, _⟩ := own_blk hv (g4.symm.trans rfl)
   exact .inl ⟨n', c', by rw [cell_of h1 0, e2]; rfl⟩
  ·simp only [Value.ownBlock, Option.some.injEq] at g4
   exact .inr (by omega)
 ·exact hM.block _ (by omega) (fun e => by have := hx _ e; omega)
theorem own_string {l : List UInt8} (h : W.ownsRow B 5 1 v n (u8L l)) : (convert 23 9 v).run Tryz.prog W = .ok (.string ⟨l.toArray⟩) W := by
 have hz : ∀ W : World, (convert 23 9 (.slice none 0 0)).run Tryz.prog W = .ok (.string ⟨#[]⟩) W := fun W => by kernel_rfl
 have h' := h
 obtain ⟨h1, ⟨rfl, rfl⟩ | ⟨g, cap, cur, rfl, _, hg, hd⟩⟩ := h
 ·have : l = [] := by simpa [u8L] using h1
  subst this
  exact hz W
 ·have hn : n = l.length := by simp [u8L] at h1; omega
  subst hn
  refine run_convert_bytes_back (P := Tryz.prog) W _ _ 5 ⟨g, 0, none⟩ cap l Tryz.underlying23 (by kernel_rfl) Tryz.underlying9 (fun j hj => ?_)
  have e : (⟨g, 0, none⟩ : Addr).add j = ⟨g, j, none⟩ := by unfold Addr.add; split <;> simp_all
  rw [e]
  have h2 : (u8L l)[j]? = some (.int .u8 (l[j].toNat : Int)) := by simp [u8L, hj]
  rw [h'.cellAt j (by simpa using hj), h2]
end
attribute [local go_sem] Oper.semAt_some
theorem blk_a {b : Nat} {o o' : Obj} (h : w.heap[b]? = some o) : (w.alloc o').heap[b]? = some o := (Below.heap_alloc _ _ _ (lt_of_block h)).trans h
theorem addr_ad (g j : Nat) : (⟨g, 0, none⟩ : Addr).add j = ⟨g, 0 + j, none⟩ := by unfold Addr.add; split <;> simp_all
theorem own_sl (h : w.ownsRow B e s v n xs) : ∃ a c, v = .slice a n c := by
 obtain ⟨_, ⟨rfl, rfl⟩ | ⟨g, cap, cur, rfl, _⟩⟩ := h
 ·exact ⟨_, _, rfl⟩
 ·exact ⟨_, _, rfl⟩
theorem key_at {R : Nat} (w : World) :
 Calls Tryz.prog 114 #[.pointer (some ⟨R, 0, none⟩)] w fun e w' => e = .returned (.func (.func 124) #[] #[.pointer (some ⟨w.heap.size, 0, none⟩)]) /\ w' = w.alloc (.cells #[.pointer (some ⟨R, 0, none⟩)] 220 (0, 0)) := by
 have hmf := makeF Tryz.prog
 go_enter Tryz.func114, Tryz.ntmps114
 go_wp2_with fail
 go_ret
 exact ⟨rfl, rfl⟩
set_option maxRecDepth 100000 in
set_option maxHeartbeats 8000000 in
theorem Decode_at {c : ByteArray} {K : List UInt8} (w : World) (hc : byt c = encL K) (hsz : c.size <= 100000) (hK : K.length <= 16) :
 Calls Tryz.prog 93 #[.string c] w fun e w' => e = .returned (.tuple #[.string ⟨K.toArray⟩, .int .i64 0]) /\ Below w.heap.size w w' := by
 have hmf := makeF Tryz.prog
 refine (callsIn_wide (n := 8)).1 ?_
 refine callsIn_of_wp_marks Tryz.func93 rfl trivial ?_ rfl
 refine wpIn_wide.2 ?_
 simp only [Tryz.ntmps93, List.size_toArray, List.length_cons, List.length_nil, Nat.reduceAdd, Nat.reduceSub, Array.replicate_succ, Array.replicate_zero, List.push_toArray, List.append_toArray, List.nil_append, List.cons_append]
 go_wp2_with (go_at_call 114; refine (key_at _).mono ?_; rintro e w2 ⟨rfl, rfl⟩)
 have hs1 : (w.alloc (.cells #[.string ⟨#[]⟩] 9 (0, 0))).heap.size = w.heap.size + 1 := by simp
 have hs2 : ((w.alloc (.cells #[.string ⟨#[]⟩] 9 (0, 0))).alloc (.cells #[.int .i64 0] 29 (0, 0))).heap.size = w.heap.size + 1 + 1 := by simp
 have hs3 : (((w.alloc (.cells #[.string ⟨#[]⟩] 9 (0, 0))).alloc (.cells #[.int .i64 0] 29 (0, 0))).alloc (.cells #[.string c, .int .i64 0] 224 (0, 0))).heap.size = w.heap.size + 1 + 1 + 1 := by simp
 have hs4 : ((((w.alloc (.cells #[.string ⟨#[]⟩] 9 (0, 0))).alloc (.cells #[.int .i64 0] 29 (0, 0))).alloc (.cells #[.string c, .int .i64 0] 224 (0, 0))).alloc (.cells #[.slice none 0 0] 23 (0, 0))).heap.size = w.heap.size + 1 + 1 + 1 + 1 := by simp
 have hs5 : (((((w.alloc (.cells #[.string ⟨#[]⟩] 9 (0, 0))).alloc (.cells #[.int .i64 0] 29 (0, 0))).alloc (.cells #[.string c, .int .i64 0] 224 (0, 0))).alloc (.cells #[.slice none 0 0] 23 (0, 0))).alloc (.cells #[.pointer (some ⟨w.heap.size + 1 + 1, 0, none⟩)] 220 (0, 0))).heap.size = w.heap.size + 1 + 1 + 1 + 1 + 1 := by simp
 have b0 := blk_a (o' := (.cells #[.pointer (some ⟨w.heap.size + 1 + 1, 0, none⟩)] 220 (0, 0))) (blk_a (o' := (.cells #[.slice none 0 0] 23 (0, 0))) (blk_a (o' := (.cells #[.string c, .int .i64 0] 224 (0, 0))) (blk_a (o' := (.cells #[.int .i64 0] 29 (0, 0))) (z0a w (.cells #[.string ⟨#[]⟩] 9 (0, 0))))))
 have b1 := blk_a (o' := (.cells #[.pointer (some ⟨w.heap.size + 1 + 1, 0, none⟩)] 220 (0, 0))) (blk_a (o' := (.cells #[.slice none 0 0] 23 (0, 0))) (blk_a (o' := (.cells #[.string c, .int .i64 0] 224 (0, 0))) (z0a (w.alloc (.cells #[.string ⟨#[]⟩] 9 (0, 0))) (.cells #[.int .i64 0] 29 (0, 0)))))
 have b2 := blk_a (o' := (.cells #[.pointer (some ⟨w.heap.size + 1 + 1, 0, none⟩)] 220 (0, 0))) (blk_a (o' := (.cells #[.slice none 0 0] 23 (0, 0))) (z0a ((w.alloc (.cells #[.string ⟨#[]⟩] 9 (0, 0))).alloc (.cells #[.int .i64 0] 29 (0, 0))) (.cells #[.string c, .int .i64 0] 224 (0, 0))))
 have b3 := blk_a (o' := (.cells #[.pointer (some ⟨w.heap.size + 1 + 1, 0, none⟩)] 220 (0, 0))) (z0a (((w.alloc (.cells #[.string ⟨#[]⟩] 9 (0, 0))).alloc (.cells #[.int .i64 0] 29 (0, 0))).alloc (.cells #[.string c, .int .i64 0] 224 (0, 0))) (.cells #[.slice none 0 0] 23 (0, 0)))
 have b4 := z0a ((((w.alloc (.cells #[.string ⟨#[]⟩] 9 (0, 0))).alloc (.cells #[.int .i64 0] 29 (0, 0))).alloc (.cells #[.string c, .int .i64 0] 224 (0, 0))).alloc (.cells #[.slice none 0 0] 23 (0, 0))) (.cells #[.pointer (some ⟨w.heap.size + 1 + 1, 0, none⟩)] 220 (0, 0))
 rw [hs1] at b1
 rw [hs2] at b2
 rw [hs3] at b3
 rw [hs4] at b4
 have hB : Below w.heap.size w (((((w.alloc (.cells #[.string ⟨#[]⟩] 9 (0, 0))).alloc (.cells #[.int .i64 0] 29 (0, 0))).alloc (.cells #[.string c, .int .i64 0] 224 (0, 0))).alloc (.cells #[.slice none 0 0] 23 (0, 0))).alloc (.cells #[.pointer (some ⟨w.heap.size + 1 + 1, 0, none⟩)] 220 (0, 0))) := (((((Below.refl _ _).alloc (Nat.le_refl _) _).alloc (by simp) _).alloc (by simp; omega) _).alloc (by simp; omega) _).alloc (by simp; omega) _
 generalize hWl : (((((w.alloc (.cells #[.string ⟨#[]⟩] 9 (0, 0))).alloc (.cells #[.int .i64 0] 29 (0, 0))).alloc (.cells #[.string c, .int .i64 0] 224 (0, 0))).alloc (.cells #[.slice none 0 0] 23 (0, 0))).alloc (.cells #[.pointer (some ⟨w.heap.size + 1 + 1, 0, none⟩)] 220 (0, 0))) = Wl at *
 generalize hu : w.heap.size = u at *
 have h0 : DcI u w [] Wl := ⟨b0, b1, ⟨_, b3, World.ownsRow_nil _ _ _ _⟩, hB, by omega⟩
 have hnm : ¬ MineAt (u + 1 + 1 + 1) Wl (u + 1 + 1 + 1 + 1) := by
  rintro ⟨n, c', hm⟩
  rw [cell_of b3 0] at hm
  simp at hm
 have hml : ∀ i, MineAt (u + 1 + 1 + 1) Wl i -> i < Wl.heap.size := by
  rintro i ⟨n, c', hm⟩
  rw [cell_of b3 0] at hm
  simp at hm
 have hMR : ∀ A B i, u + 1 + 1 + 1 + 1 <= A.heap.size -> Mod (· = u + 1 + 1) A B -> MineAt (u + 1 + 1 + 1) B i -> MineAt (u + 1 + 1 + 1) A i := by
  rintro A B i hsA hM ⟨n, c', hm⟩
  exact ⟨n, c', (World.cell?_of_block (w := A) (hM.block _ (show u + 1 + 1 + 1 < A.heap.size by omega) (show ¬ u + 1 + 1 + 1 = u + 1 + 1 by omega))).symm.trans hm⟩
 have HT := hid (key1_turn (u + 1 + 1 + 1 + 1) (u + 1 + 1) (u + 1 + 1 + 1 + 1) K Wl b4 b2 hc hsz (Nat.le_refl _) (MineAt (u + 1 + 1 + 1)) (mineAt_ok (by omega)) hMR hnm)
 have H0 := hid h0
 have HB := hid hB
 have HU := hid hu
 have HK := hid hK
 have HML := hid hml
 clear hWl hs1 hs2 hs3 hs4 b0 b1 b2 b3 b4 h0 hB hnm hMR hml hc
 refine wpIn_wide.1 (range_turn (n := 8) (u + 1 + 1) (.cells #[.string c, .int .i64 c.size] 224 (0, 0)) (by decide) (gf := 124) (lb := #[.pointer (some ⟨(u + 1 + 1 + 1 + 1), 0, none⟩)]) rfl (enters_of Tryz.func124 (by kernel_rfl) rfl) (MineAt (u + 1 + 1 + 1)) (mineAt_ok (by omega)) HT.out (by omega) (by omega) HML.out (Below.refl _ _) (fun _ => rfl)
  (DcI u w) (fun _ _ => False) (DcI.own (by omega)) (fun _ _ _ _ h _ _ => h) DcI.abR (fun _ _ _ h _ => h) H0.out (fun x a' _ => a' = ({ tmps := #[.string c, undef, .pointer (some ⟨u, 0, none⟩), .pointer (some ⟨(u + 1), 0, none⟩), .pointer (some ⟨(u + 1 + 1), 0, none⟩), .pointer (some ⟨(u + 1 + 1 + 1), 0, none⟩), .int .u8 (x.toNat : Int), .func (.func 113) #[] #[.pointer (some ⟨u, 0, none⟩), .pointer (some ⟨(u + 1), 0, none⟩)], .string c, .agg #[.string c, .int .i64 0], .agg #[.string c, .int .i64 0], .pointer (some ⟨(u + 1 + 1), 0, none⟩), .pointer (some ⟨(u + 1 + 1), 0, none⟩), .func (.func 124) #[] #[.pointer (some ⟨(u + 1 + 1 + 1 + 1), 0, none⟩)], .int .u8 (x.toNat : Int), undef, undef, undef, undef, undef, undef, undef, undef, undef, undef, undef, undef, undef, undef, undef, undef, undef], defers := [] } : Act)) (fun _ _ _ _ _ _ h _ _ => h) ?assign ?body ?done ?stop)
 case assign =>
  rintro l pre x W K2 hI hK2
  dsimp only [encB]
  gi_wp2_with fail
  exact hK2 _ _ (KeepsFrom.refl _ _) (KpM.refl _ _ _) hI rfl rfl
 case body =>
  rintro l pre x a' W hl hrec hI rfl hlen
  obtain ⟨v, h1, hv⟩ := hI.o
  obtain ⟨i1, hi1, hz1, hs1, hby1⟩ := info_parts (P := Tryz.prog) (e := 5) (z := .int .u8 0) (size := 1) (bytes := 1) (by kernel_rfl)
  have HI1 := hid hi1
  have HZ1 := hid hz1
  have HS1 := hid hs1
  have HY1 := hid hby1
  have HI := hid hI
  have H1 := hid h1
  have HV := hid hv
  have q0 := cell_of h1 0
  have hnb := z0a W (.cells #[.int .u8 (x.toNat : Int)] 5 (0, 0))
  have HNB := hid hnb
  have HLEN := hid hlen
  have hsz1 := hI.z
  clear hi1 hz1 hs1 hby1 hI h1 hv hnb hlen
  gi_wp2_with (refine wpListIn_append_own_at (W.alloc (.cells #[.int .u8 (x.toNat : Int)] 5 (0, 0))) rfl (.tmp 15) (.tmp 17) 23 rfl (u + 1 + 1 + 1 + 1) 5 i1 (.int .u8 0) 1 1 Tryz.underlying23 HI1.out HZ1.out HS1.out HY1.out rfl (by decide) v pre.length (u8L pre) (by kernel_rfl) (HV.out.alloc _) ⟨W.heap.size, 0, none⟩ 1 1 [.int .u8 (x.toNat : Int)] (by kernel_rfl) rfl (fun j z hj => by rw [addr_ad, Nat.zero_add, cell_of HNB.out, List.getElem?_toArray]; exact hj) (by simp [Value.oneCell']) (by have := HLEN.out; have := HK.out; simp [maxLen]; omega) (by have := HLEN.out; have := HK.out; omega) (by simp; omega) ?_)
  intro v' w2 g1 g2 _ g4
  obtain ⟨ho2, hI3, ho3, hk3, hp3, hr3⟩ := DcI.round HI.out H1.out HV.out g1 g2 g4
  obtain ⟨a3, c3, rfl⟩ := own_sl g1
  clear q0
  have q1 := cell_of ho2 0
  have qf := z0e ho2
  have q2 := cell_of ho3 0
  have HE := hid (And.intro hk3 (And.intro hp3 (And.intro hI3 hr3)))
  have hle : decide ((pre.length : Int) + 1 > 16) = false := by have := HLEN.out; have := HK.out; simp; omega
  clear ho2 hI3 ho3 hk3 hp3 hr3 g1 g2 g4
  gi_wp2_with fail
  exact ⟨by rw [hs5]; exact HE.out.1, HE.out.2.1, HE.out.2.2.1, HE.out.2.2.2⟩
 case done =>
  rintro D xs W hD rfl hI hR hdf
  obtain ⟨v, h1, hv⟩ := hI.o
  have hst := own_string hv
  have r0 := cell_of hR 0
  have r1 := cell_of hR 1
  have q0 := cell_of h1 0
  have s0 := cell_of hI.s 0
  have sf := z0e hI.s
  have e0 := cell_of hI.e 0
  have ef := z0e hI.e
  have HI := hid hI
  have HDF := hid hdf
  clear hI hv h1 hR hdf hsz HT H0 HML HB
  go_wp2_with fail
  have hM : Mod (fun k => k = u \/ k = u + 1) W ((W.setCell ⟨u, 0, none⟩ (.string ⟨xs.toArray⟩)).setCell ⟨u + 1, 0, none⟩ (.int .i64 0)) :=
   Mod.setCell (S := fun k => k = u \/ k = u + 1) (p := ⟨u + 1, 0, none⟩) (Mod.setCell (S := fun k => k = u \/ k = u + 1) (p := ⟨u, 0, none⟩) (Mod.refl _ _) (.inl (.inl rfl)) _) (.inl (.inr rfl)) _
  have m0 : ((W.setCell ⟨u, 0, none⟩ (.string ⟨xs.toArray⟩)).setCell ⟨u + 1, 0, none⟩ (.int .i64 0)).heap[u]? = some (.cells #[.string ⟨xs.toArray⟩] 9 (0, 0)) := by
   have h1 := heap_set (i := 0) (v := .string ⟨xs.toArray⟩) HI.out.s
   have hMs : Mod (· = u + 1) (W.setCell ⟨u, 0, none⟩ (.string ⟨xs.toArray⟩)) ((W.setCell ⟨u, 0, none⟩ (.string ⟨xs.toArray⟩)).setCell ⟨u + 1, 0, none⟩ (.int .i64 0)) := Mod.setCell (S := (· = u + 1)) (p := ⟨u + 1, 0, none⟩) (Mod.refl _ _) (.inl rfl) _
   have h2 := (hMs.block u (lt_of_block h1) (by show ¬ u = u + 1; omega)).trans h1
   simpa using h2
  have m1 : ((W.setCell ⟨u, 0, none⟩ (.string ⟨xs.toArray⟩)).setCell ⟨u + 1, 0, none⟩ (.int .i64 0)).heap[u + 1]? = some (.cells #[.int .i64 0] 29 (0, 0)) := by
   have hMs : Mod (· = u) W (W.setCell ⟨u, 0, none⟩ (.string ⟨xs.toArray⟩)) := Mod.setCell (S := (· = u)) (p := ⟨u, 0, none⟩) (Mod.refl _ _) (.inl rfl) _
   have h1 := heap_set (i := 0) (v := .int .i64 0) ((hMs.block (u + 1) (lt_of_block HI.out.e) (by show ¬ u + 1 = u; omega)).trans HI.out.e)
   simpa using h1
  generalize (W.setCell ⟨u, 0, none⟩ (.string ⟨xs.toArray⟩)).setCell ⟨u + 1, 0, none⟩ (.int .i64 0) = W2 at *
  have hdf2 := (hM.block D (lt_of_block HDF.out) (by show ¬ (D = u \/ D = u + 1); omega)).trans HDF.out
  refine ⟨by simp, .inl ⟨_, _, rfl, run_takeDeferred hdf2, ?_⟩⟩
  refine ⟨by simp, .inr ⟨(fun h => by cases h), _, _, 113, #[.pointer (some ⟨u, 0, none⟩), .pointer (some ⟨(u + 1), 0, none⟩)], rfl, by simp [go_sem], fun _ _ => trivial, ?_⟩⟩
  refine (idle_in _ _ _ _).mono ?_
  rintro e u' w'' ⟨rfl, rfl, rfl⟩
  have p0 := cell_of ((World.putObj_heap_other (w := W2) (r := D) (o := .deferred none) (k := u) (by omega)).trans m0) 0
  have p1 := cell_of ((World.putObj_heap_other (w := W2) (r := D) (o := .deferred none) (k := u + 1) (by omega)).trans m1) 0
  refine ⟨.tuple #[.string ⟨xs.toArray⟩, .int .i64 0], by simp [results, Tryz.results93, go_sem, p0, p1], rfl, ?_⟩
  rw [hu]
  exact HI.out.b.trans ⟨hM.os, hM.tape, hM.output, by simpa using hM.size, fun k hk => (World.putObj_heap_other (by omega)).trans (hM.block k (by have := lt_of_block HI.out.s; omega) (by show ¬ (k = u \/ k = u + 1); omega))⟩
 case stop => exact fun D pre W hD hp h hk => h.elim
end Go.Proofs.YtgdmfledhhoedaaGreatDoor.D
namespace Go.Burg
open Go
def z2k (c : ByteArray) : Prop := ∃ K : List UInt8, byt c = encL K /\ K.length <= 16
theorem encL_len : ∀ K : List UInt8, (encL K).length <= 2 * K.length + 2
 | [] => by simp [encL]
 | x :: l => by
  have := encL_len l
  unfold encL
  split <;> simp <;> omega
theorem z2k.size {c : ByteArray} (h : z2k c) : c.size <= 34 := by
 obtain ⟨K, h1, h2⟩ := h
 have := encL_len K
 rw [<- h1, z0z] at this
 omega
end Go.Burg
namespace Go.Proofs.YtgdmfledhhoedaaGreatDoor.D
set_option maxRecDepth 8000
open Go.ChangeShapes Go.WideShapes Go.ChangeAt Go.RowKit Go.Burg Go.Shelf
theorem Is_at {c : ByteArray} (w : World) (h : z2k c) : Calls Tryz.prog 64 #[.string c] w fun e w' => e = .returned (.bool true) /\ Below w.heap.size w w' := by
 have hs := h.size
 obtain ⟨K, h1, h2⟩ := h
 have HD := hid (Decode_at w h1 (by omega) h2)
 clear h1 h2 hs
 go_enter Tryz.func64, Tryz.ntmps64
 go_wp2_with (go_at_call 93; refine HD.out.mono ?_; rintro e w2 ⟨rfl, hb⟩)
 go_ret
 exact ⟨by first | rfl | simp, hb⟩
end Go.Proofs.YtgdmfledhhoedaaGreatDoor.D
namespace Go
def Exit.jumps (J : Nat -> Act -> World -> Prop) (Q : Exit -> Act -> World -> Prop) : Exit -> Act -> World -> Prop
 | .goto l, a, w => J l a w
 | e, a, w => Q e a w
section
variable {P : Program} {a : Act} {w : World} {Q : Exit -> Act -> World -> Prop}
theorem wp_scope_two {c r0 r1 : Code} (l0 l1 : Nat) (J0 J1 : Act -> World -> Prop) (μ : Act -> World -> Nat) (h0 : findLabel c l0 = some (Code.skip.seq r0)) (h1 : findLabel c l1 = some (Code.skip.seq r1))
 (first : (∀ a w, J0 a w -> r0.wp P (Exit.jumps (fun l a' w' => (l = l0 /\ J0 a' w') \/ (l = l1 /\ J1 a' w')) Q) a w) -> c.wp P (Exit.jumps (fun l a' w' => (l = l0 /\ J0 a' w') \/ (l = l1 /\ J1 a' w')) Q) a w)
 (pass0 : ∀ a w, J0 a w -> r0.wp P (Exit.jumps (fun l a' w' => (l = l0 /\ J0 a' w' /\ μ a' w' < μ a w) \/ (l = l1 /\ J1 a' w')) Q) a w)
 (pass1 : ∀ a w, J1 a w -> r1.wp P (Exit.jumps (fun _ _ _ => False) Q) a w) : (Code.scope c).wp P Q a w := by
 intro b k cs
 have hg0 : gotoIn l0 (.inScope c :: k) = some (.code (Code.skip.seq r0) :: .inScope c :: k) := by simp [gotoIn, h0]
 have hg1 : gotoIn l1 (.inScope c :: k) = some (.code (Code.skip.seq r1) :: .inScope c :: k) := by simp [gotoIn, h1]
 have key1 : ∀ a w, J1 a w -> ∃ e a' w', Q e a' w' /\ Arrives P (lone (b.at a (.code (Code.skip.seq r1) :: .inScope c :: k)) cs w) b k cs e a' w' := by
  intro a w hJ
  obtain ⟨e, a₁, w₁, hq, harr⟩ := (wp_seq (wp_skip (Q := Exit.then (r1.wp P _) _) (pass1 a w hJ)) : (Code.skip.seq r1).wp P _ a w) b (.inScope c :: k) cs
  cases e with
  | normal => exact ⟨.normal, a₁, w₁, hq, Steps.trans harr (.one step_inScope)⟩
  | exit id => exact ⟨.exit id, a₁, w₁, hq, fun k' hk => harr k' (by simp [exitTo, hk])⟩
  | goto l' => exact hq.elim
  | ret => exact ⟨_, a₁, w₁, hq, harr⟩
  | panic ch => exact ⟨_, a₁, w₁, hq, harr⟩
  | outgrown => exact ⟨_, a₁, w₁, hq, harr⟩
 have key : ∀ n a w, μ a w = n -> J0 a w -> ∃ e a' w', Q e a' w' /\ Arrives P (lone (b.at a (.code (Code.skip.seq r0) :: .inScope c :: k)) cs w) b k cs e a' w' := by
  intro n
  induction n using Nat.strongRecOn with
  | _ n ih =>
   intro a w hn hJ
   obtain ⟨e, a₁, w₁, hq, harr⟩ := (wp_seq (wp_skip (Q := Exit.then (r0.wp P _) _) (pass0 a w hJ)) : (Code.skip.seq r0).wp P _ a w) b (.inScope c :: k) cs
   cases e with
   | normal => exact ⟨.normal, a₁, w₁, hq, Steps.trans harr (.one step_inScope)⟩
   | exit id => exact ⟨.exit id, a₁, w₁, hq, fun k' hk => harr k' (by simp [exitTo, hk])⟩
   | goto l' =>
    rcases hq with ⟨rfl, hJ', hlt⟩ | ⟨rfl, hJ'⟩
    ·obtain ⟨e₂, a₂, w₂, hq₂, harr₂⟩ := ih _ (by omega) a₁ w₁ rfl hJ'
     exact ⟨e₂, a₂, w₂, hq₂, .of_steps (harr _ hg0) harr₂⟩
    ·obtain ⟨e₂, a₂, w₂, hq₂, harr₂⟩ := key1 a₁ w₁ hJ'
     exact ⟨e₂, a₂, w₂, hq₂, .of_steps (harr _ hg1) harr₂⟩
   | ret => exact ⟨_, a₁, w₁, hq, harr⟩
   | panic ch => exact ⟨_, a₁, w₁, hq, harr⟩
   | outgrown => exact ⟨_, a₁, w₁, hq, harr⟩
 have weak : ∀ a w, J0 a w -> r0.wp P (Exit.jumps (fun l a' w' => (l = l0 /\ J0 a' w') \/ (l = l1 /\ J1 a' w')) Q) a w := fun a w hJ b k cs => by
  obtain ⟨e, a₁, w₁, hq, harr⟩ := pass0 a w hJ b k cs
  refine ⟨e, a₁, w₁, ?_, harr⟩
  cases e with
  | goto l' => exact hq.elim (fun h => .inl ⟨h.1, h.2.1⟩) .inr
  | normal => exact hq
  | exit id => exact hq
  | ret => exact hq
  | panic ch => exact hq
  | outgrown => exact hq
 obtain ⟨e, a₁, w₁, hq, harr⟩ := first weak b (.inScope c :: k) cs
 cases e with
 | normal => exact ⟨.normal, a₁, w₁, hq, .head step_scope (Steps.trans harr (.one step_inScope))⟩
 | exit id => exact ⟨.exit id, a₁, w₁, hq, fun k' hk => .head step_scope (harr k' (by simp [exitTo, hk]))⟩
 | goto l' =>
  rcases hq with ⟨rfl, hJ'⟩ | ⟨rfl, hJ'⟩
  ·obtain ⟨e₂, a₂, w₂, hq₂, harr₂⟩ := key _ a₁ w₁ rfl hJ'
   exact ⟨e₂, a₂, w₂, hq₂, .of_steps (.head step_scope (harr _ hg0)) harr₂⟩
  ·obtain ⟨e₂, a₂, w₂, hq₂, harr₂⟩ := key1 a₁ w₁ hJ'
   exact ⟨e₂, a₂, w₂, hq₂, .of_steps (.head step_scope (harr _ hg1)) harr₂⟩
 | ret => exact ⟨_, a₁, w₁, hq, .of_steps (.one step_scope) harr⟩
 | panic ch => exact ⟨_, a₁, w₁, hq, .of_steps (.one step_scope) harr⟩
 | outgrown => exact ⟨_, a₁, w₁, hq, .of_steps (.one step_scope) harr⟩
end
end Go
namespace Go.Burg
open Go Go.RowKit
structure SpotP where
 what : Nat
 way : List (Int × Int)
 at_ : Nat
 depth : Nat
def rst (c : ByteArray) (d : Nat) : ByteArray := c.extract d c.size
theorem rst_size (c : ByteArray) (d : Nat) : (rst c d).size = c.size - d := by simp [rst, ByteArray.size_extract]
inductive SeekW (P : List (Cel PNd)) (c : ByteArray) : Int × Int -> Nat -> List (Int × Int) -> SpotP -> Prop
 | leaf {r : Int × Int} {d : Nat} {W : List (Int × Int)} {i : Nat} {q : PNd} {c' v : ByteArray} (h : z0k P r.1 r.2 i q) (hn : q.n = .leaf c' v) (h1 : d <= c.size) (h2 : d <= c'.size) : SeekW P c r d W ⟨if c' = c then 1 else 4, W ++ [r], if c' = c then 0 else com (rst c d) (rst c' d), d⟩
 | split {r : Int × Int} {d : Nat} {W : List (Int × Int)} {i : Nat} {q : PNd} {k : Nat} {pt : ByteArray} {L : List Kd} (h : z0k P r.1 r.2 i q) (hn : q.n = .z0j k pt L) (h1 : d <= c.size) (h2 : com (rst c d) pt < pt.size) : SeekW P c r d W ⟨3, W ++ [r], com (rst c d) pt, d⟩
 | bare {r : Int × Int} {d : Nat} {W : List (Int × Int)} {i : Nat} {q : PNd} {k : Nat} {pt : ByteArray} {L : List Kd} {x : UInt8} (h : z0k P r.1 r.2 i q) (hn : q.n = .z0j k pt L) (h1 : d <= c.size) (h2 : com (rst c d) pt = pt.size) (hx : (byt (rst c d))[pt.size]? = some x) (hf : z0o L x.toNat = none) : SeekW P c r d W ⟨2, W ++ [r], x.toNat, d⟩
 | down {r : Int × Int} {d : Nat} {W : List (Int × Int)} {i : Nat} {q : PNd} {k : Nat} {pt : ByteArray} {L : List Kd} {x : UInt8} {kk : Kd} {s : SpotP} (h : z0k P r.1 r.2 i q) (hn : q.n = .z0j k pt L) (h1 : d <= c.size) (h2 : com (rst c d) pt = pt.size) (hx : (byt (rst c d))[pt.size]? = some x) (hf : z0o L x.toNat = some kk)
  (hs : SeekW P c (kk.s, kk.g) (d + pt.size + 1) (W ++ [r]) s) : SeekW P c r d W s
end Go.Burg
namespace Go.Proofs.YtgdmfledhhoedaaGreatDoor.T
set_option maxRecDepth 8000
open Go.ChangeShapes Go.WideShapes Go.ChangeAt Go.RowKit Go.Burg
open Go.Burg.Lk
variable {d i k u : Nat}
set_option maxHeartbeats 4000000 in
theorem planted_at {t sb sg kb km : Nat} {l : List (Cel Nd)} {L : List (RefK × Wd)} {tk : Int} {c : Cel Nd} (slot gen : Int) (w : World) (h : TreeAt w t sb sg kb km l L tk) (hL : S.Live l slot gen i c) :
 Calls Tryz.prog 37 #[.pointer (some ⟨t, 0, none⟩), .agg #[.int .i64 slot, .int .u32 gen]] w fun e w' => e = .returned (.bool c.x.planted) /\ Below w.heap.size w w' := by
 have hN := z0a w (.cells #[.int .i64 slot, .int .u32 gen] 36 (0, 0))
 have hA := h.alloc (.cells #[.int .i64 slot, .int .u32 gen] 36 (0, 0))
 have hB : Below w.heap.size w (w.alloc (.cells #[.int .i64 slot, .int .u32 gen] 36 (0, 0))) := (Below.refl _ _).alloc (Nat.le_refl _) _
 obtain ⟨is, ⟨kn, cd, vl, pt, ⟨ya, yn, yc⟩, ⟨za, zn, zc⟩, pl, di⟩, gn⟩ := c
 generalize hW : w.alloc (.cells #[.int .i64 slot, .int .u32 gen] 36 (0, 0)) = W at *
 have HW := hid hW
 have HA := hid hA
 have HN := hid hN
 have HB := hid hB
 have HT : Hid (∀ w1, Below W.heap.size W w1 -> Calls Tryz.prog 67 #[.pointer (some ⟨sb, 0, none⟩), .agg #[.int .i64 slot, .int .u32 gen]] w1 fun e w' => e = .returned (.tuple #[.agg #[.int .i64 kn, .string cd, .string vl, .string pt, .slice ya yn yc, .slice za zn zc, .bool pl, .bool di], .bool true]) /\ Below w1.heap.size w1 w') := hid (fun (w1 : World) (hw1 : Below W.heap.size W w1) => S.get_live slot gen w1 (HA.out.keep hw1).hs hL)
 have c0 := cell_of HA.out.ht 0
 have n0 := cell_of HN.out 0
 have n1 := cell_of HN.out 1
 have l0 := lt_of_block HN.out
 have l1 := lt_of_block HA.out.ht
 clear hW hA hN hB h hL
 go_enter Tryz.func37, Tryz.ntmps37
 go_wp2_with fail
 rw [HW.out]
 go_region_with (go_at_call 67; refine (HT.out _ (by (repeat (first | exact Below.refl _ _ | assumption | with_reducible refine Below.drew ?_ | with_reducible refine below_drewN ?_ | with_reducible refine Below.setCell ?_ (by first | (simp; done) | (simp; omega)) _ | with_reducible refine Below.alloc ?_ (by first | exact Nat.le_refl _ | (simp; done) | (simp; omega)) _)))).mono ?_; rintro e w2 ⟨rfl, hw2⟩; (try (have z := (hw2.block W.heap.size (by simp)).trans (z0a W (.cells #[.int .i64 0, .string ⟨#[]⟩, .string ⟨#[]⟩, .string ⟨#[]⟩, .slice none 0 0, .slice none 0 0, .bool false, .bool false] 104 (0, 0))); have z0 := cell_of z 0; have z1 := cell_of z 1; have z2 := cell_of z 2; have z3 := cell_of z 3; have z4 := cell_of z 4; have z5 := cell_of z 5; have z6 := cell_of z 6; have z7 := cell_of z 7; have zf := z0e z)); have HW2 : Hid (Below W.heap.size W w2) := hid (z0c (by (repeat (first | exact Below.refl _ _ | assumption | with_reducible refine Below.drew ?_ | with_reducible refine below_drewN ?_ | with_reducible refine Below.setCell ?_ (by first | (simp; done) | (simp; omega)) _ | with_reducible refine Below.alloc ?_ (by first | exact Nat.le_refl _ | (simp; done) | (simp; omega)) _))) hw2 (by first | exact Nat.le_refl _ | (simp; done) | (simp; omega))); clear hw2)
 all_goals
  clear HT c0 n0 n1
  go_wp2
  go_ret
  refine ⟨rfl, ?_⟩
  have hb := HB.out.trans (HW2.out.mono HB.out.size)
  have hs := HB.out.size
  first
   | with_reducible exact hb.alloc hb.size _
   | ((repeat with_reducible refine Below.setCell ?_ hs _); exact hb)
def dOf (b : Nat) (w : World) : Nat := match w.cell? ⟨b, 3, none⟩ with
 | some (.int _ d) => d.toNat
 | _ => 0
structure SkI (u : Nat) (w : World) (slot gen : Int) (r : Int × Int) (d : Nat) (W : List (Int × Int)) (w1 : World) : Prop where
 an : w1.heap[u]? = some (.cells #[.int .i64 slot, .int .u32 gen] 36 (0, 0))
 sp : ∃ v at_, w1.heap[u + 1]? = some (.cells #[.int .i64 0, v, .int .i64 at_, .int .i64 (d : Nat)] 107 (0, 0)) /\ w1.ownsRow (u + 1 + 1 + 1 + 1) 36 2 v W.length (z1v W)
 nd : ∃ a0 a1 a2 a3 a4 a5, w1.heap[u + 1 + 1]? = some (.cells #[a0, a1, a2, a3, a4, a5] 102 (0, 0))
 rf : w1.heap[u + 1 + 1 + 1]? = some (.cells #[.int .i64 r.1, .int .u32 r.2] 36 (0, 0))
 b : Below u w w1
structure SkL (u : Nat) (w : World) (x : Nd) (d : Nat) (W : List (Int × Int)) (w1 : World) : Prop where
 sp : ∃ v at_, w1.heap[u + 1]? = some (.cells #[.int .i64 0, v, .int .i64 at_, .int .i64 (d : Nat)] 107 (0, 0)) /\ w1.ownsRow (u + 1 + 1 + 1 + 1) 36 2 v W.length (z1v W)
 nd : w1.heap[u + 1 + 1]? = some (.cells #[.int .i64 x.kind, .string x.code, .string x.value, .string x.path, .slice x.bytes.a x.bytes.n x.bytes.c, .slice x.kids.a x.kids.n x.kids.c] 102 (0, 0))
 b : Below u w w1
variable {a gen slot : Int} {W : List (Int × Int)} {w w1 w2 : World}
theorem SkI.keep {r : Int × Int} (h : SkI u w slot gen r d W w1) (hb : Below w1.heap.size w1 w2) : SkI u w slot gen r d W w2 := by
 obtain ⟨h1, ⟨v, at_, h2, h3⟩, ⟨a0, a1, a2, a3, a4, a5, h4⟩, h5, h6⟩ := h
 have e : ∀ {k : Nat} {o : Obj}, w1.heap[k]? = some o -> w2.heap[k]? = some o := fun h => (hb.block _ (lt_of_block h)).trans h
 exact ⟨e h1, ⟨v, at_, e h2, O.z0g h3 (O.z0m (S := fun _ => False) hb) (fun _ _ h => h)⟩, ⟨_, _, _, _, _, _, e h4⟩, e h5, h6.trans (hb.mono (by have := lt_of_block h1; omega))⟩
theorem jump_intro {F : (Nat -> Value) -> Act} {a : Act} {p : Prop} (f : Nat -> Value) (h : a = F f) (hp : p) : ∃ f, a = F f /\ p := ⟨f, h, hp⟩
def frD (t u : Nat) (slot gen : Int) (c : ByteArray) (f : Nat -> Value) : Act := ({ tmps := #[.pointer (some ⟨t, 0, none⟩), .agg #[.int .i64 slot, .int .u32 gen], .string c, f 3, .pointer (some ⟨u, 0, none⟩), f 5, .pointer (some ⟨(u + 1), 0, none⟩), .int .i64 0, .pointer (some ⟨(u + 1 + 1), 0, none⟩), f 9, f 10, .pointer (some ⟨(u + 1 + 1 + 1), 0, none⟩), f 12, f 13, f 14, f 15, f 16, f 17, f 18, f 19, f 20, f 21, f 22, f 23, f 24, f 25, f 26, f 27, f 28, f 29, f 30, f 31, f 32, f 33, f 34, f 35, f 36, f 37, f 38, f 39, f 40, f 41, f 42, f 43, f 44, f 45, f 46, f 47, f 48, f 49, f 50, f 51, f 52, f 53, f 54, f 55, f 56, f 57, f 58, f 59, f 60, f 61, f 62, f 63, f 64, f 65, f 66, f 67, f 68, f 69, f 70, f 71, f 72, f 73, f 74, f 75, f 76, f 77, f 78, f 79, f 80, f 81, f 82, f 83, f 84, f 85, f 86, f 87, f 88, f 89, f 90, f 91, f 92, f 93, f 94, f 95, f 96, f 97, f 98, f 99, f 100, f 101, f 102, f 103], defers := [] } : Act)
def frL (t u : Nat) (slot gen : Int) (c : ByteArray) (rest : ByteArray) (f : Nat -> Value) : Act := ({ tmps := #[.pointer (some ⟨t, 0, none⟩), .agg #[.int .i64 slot, .int .u32 gen], .string c, f 3, .pointer (some ⟨u, 0, none⟩), f 5, .pointer (some ⟨(u + 1), 0, none⟩), .int .i64 0, .pointer (some ⟨(u + 1 + 1), 0, none⟩), .string rest, f 10, .pointer (some ⟨(u + 1 + 1 + 1), 0, none⟩), f 12, f 13, f 14, f 15, f 16, f 17, f 18, f 19, f 20, f 21, f 22, f 23, f 24, f 25, f 26, f 27, f 28, f 29, f 30, f 31, f 32, f 33, f 34, f 35, f 36, f 37, f 38, f 39, f 40, f 41, f 42, f 43, f 44, f 45, f 46, f 47, f 48, f 49, f 50, f 51, f 52, f 53, f 54, f 55, f 56, f 57, f 58, f 59, f 60, f 61, f 62, f 63, f 64, f 65, f 66, f 67, f 68, f 69, f 70, f 71, f 72, f 73, f 74, f 75, f 76, f 77, f 78, f 79, f 80, f 81, f 82, f 83, f 84, f 85, f 86, f 87, f 88, f 89, f 90, f 91, f 92, f 93, f 94, f 95, f 96, f 97, f 98, f 99, f 100, f 101, f 102, f 103], defers := [] } : Act)
structure SkN (u : Nat) (w : World) (slot gen : Int) (x : Nd) (v : Value) (a : Int) (r : Int × Int) (d : Nat) (W : List (Int × Int)) (w1 : World) : Prop where
 an : w1.heap[u]? = some (.cells #[.int .i64 slot, .int .u32 gen] 36 (0, 0))
 sp : w1.heap[u + 1]? = some (.cells #[.int .i64 0, v, .int .i64 a, .int .i64 (d : Nat)] 107 (0, 0))
 ow : w1.ownsRow (u + 1 + 1 + 1 + 1) 36 2 v W.length (z1v W)
 nd : w1.heap[u + 1 + 1]? = some (.cells #[.int .i64 x.kind, .string x.code, .string x.value, .string x.path, .slice x.bytes.a x.bytes.n x.bytes.c, .slice x.kids.a x.kids.n x.kids.c] 102 (0, 0))
 rf : w1.heap[u + 1 + 1 + 1]? = some (.cells #[.int .i64 r.1, .int .u32 r.2] 36 (0, 0))
 b : Below u w w1
variable {v : Value}
theorem SkI.push {r : Int × Int} {v' : Value} {o' : Obj} (h : SkI u w slot gen r d W w1) (h1 : w1.heap[u + 1]? = some (.cells #[.int .i64 0, v, .int .i64 a, .int .i64 (d : Nat)] 107 (0, 0))) (hv : w1.ownsRow (u + 1 + 1 + 1 + 1) 36 2 v W.length (z1v W))
 (g1 : w2.ownsRow (u + 1 + 1 + 1 + 1) 36 2 v' (W.length + 1) (z1v W ++ [.int .i64 r.1, .int .u32 r.2])) (g2 : (w1.alloc o').grownBy w2 v.ownBlock) :
 w2.heap[u + 1]? = some (.cells #[.int .i64 0, v, .int .i64 a, .int .i64 (d : Nat)] 107 (0, 0)) /\ (w2.setCell ⟨u + 1, 1, none⟩ v').heap[u + 1]? = some (.cells #[.int .i64 0, v', .int .i64 a, .int .i64 (d : Nat)] 107 (0, 0)) /\ (w2.setCell ⟨u + 1, 1, none⟩ v').ownsRow (u + 1 + 1 + 1 + 1) 36 2 v' (W ++ [r]).length (z1v (W ++ [r])) /\ SkI u w slot gen r d (W ++ [r]) (w2.setCell ⟨u + 1, 1, none⟩ v') := by
 have hA : Mod (fun _ => False) w1 (w1.alloc o') := ⟨rfl, rfl, rfl, by simp, fun k hk _ => Below.heap_alloc _ _ _ hk⟩
 have hG : Mod (fun k => v.ownBlock = some k) (w1.alloc o') w2 := ⟨g2.os, g2.tape, g2.output, g2.size, fun k hk hn => g2.block k hk (fun e => hn e.symm)⟩
 have hW2 : Mod (fun k => v.ownBlock = some k) w1 w2 := (hA.mono fun _ _ h => h.elim).trans hG (fun _ _ h => h)
 have hM : Mod (fun k => v.ownBlock = some k \/ k = u + 1) w1 (w2.setCell ⟨u + 1, 1, none⟩ v') := Mod.setCell (S := fun k => v.ownBlock = some k \/ k = u + 1) (p := ⟨u + 1, 1, none⟩) (hW2.mono fun _ _ h => .inl h) (.inl (.inr rfl)) _
 have hge : ∀ k, v.ownBlock = some k -> u + 1 + 1 + 1 + 1 <= k := fun k hk => (O.z1w hv hk).1
 have ho2 : w2.heap[u + 1]? = some (.cells #[.int .i64 0, v, .int .i64 a, .int .i64 (d : Nat)] 107 (0, 0)) := (hW2.block _ (lt_of_block h1) (fun e => by have := hge _ e; omega)).trans h1
 have ho3 : (w2.setCell ⟨u + 1, 1, none⟩ v').heap[u + 1]? = some (.cells #[.int .i64 0, v', .int .i64 a, .int .i64 (d : Nat)] 107 (0, 0)) := by
  have := heap_set (i := 1) (v := v') ho2
  simpa using this
 have hge2 : ∀ k, v'.ownBlock = some k -> u + 1 + 1 + 1 + 1 <= k := fun k hk => (O.z1w g1 hk).1
 have hMs : Mod (· = u + 1) w2 (w2.setCell ⟨u + 1, 1, none⟩ v') := Mod.setCell (S := (· = u + 1)) (p := ⟨u + 1, 1, none⟩) (Mod.refl _ _) (.inl rfl) _
 have how : (w2.setCell ⟨u + 1, 1, none⟩ v').ownsRow (u + 1 + 1 + 1 + 1) 36 2 v' (W ++ [r]).length (z1v (W ++ [r])) := by
  rw [refsL_app, List.length_append]
  exact O.z0g g1 hMs (fun k hk e => by have := hge2 k hk; have : k = u + 1 := e; omega)
 have e : ∀ {k : Nat} {o : Obj}, k < u + 1 + 1 + 1 + 1 -> k ≠ u + 1 -> w1.heap[k]? = some o -> (w2.setCell ⟨u + 1, 1, none⟩ v').heap[k]? = some o := fun hk hne h => (hM.block _ (lt_of_block h) (fun e => e.elim (fun e => by have := hge _ e; omega) hne)).trans h
 obtain ⟨a0, a1, a2, a3, a4, a5, hnd⟩ := h.nd
 refine ⟨ho2, ho3, how, ⟨e (by omega) (by omega) h.an, ⟨_, _, ho3, how⟩, ⟨_, _, _, _, _, _, e (by omega) (by omega) hnd⟩, e (by omega) (by omega) h.rf, ?_⟩⟩
 exact h.b.trans ⟨hM.os, hM.tape, hM.output, hM.size, fun k hk => hM.block k (by have := lt_of_block h.an; omega) (fun e => e.elim (fun e => by have := hge _ e; omega) (fun e => by omega))⟩
theorem z0u {W : World} (h : Below u w W) (hM : Mod (· = k) W w1) (hk : u <= k) (hz : u <= W.heap.size) : Below u w w1 :=
 h.trans ⟨hM.os, hM.tape, hM.output, hM.size, fun j hj => hM.block j (by omega) (by show ¬ j = k; omega)⟩
structure SkJ (T : TypeId) (b : Nat) (W : World) (cs : Array Value) (w1 : World) : Prop where
 m : Mod (· = b) W w1
 c : w1.heap[b]? = some (.cells cs T (0, 0))
theorem SkJ.below {T : TypeId} {b : Nat} {W : World} {cs : Array Value} (h : SkJ T b W cs w1) (hb : Below w1.heap.size w1 w2) : SkJ T b W cs w2 := ⟨h.m.trans (Mod.z0n hb) (fun _ _ h => h), (hb.block _ (lt_of_block h.c)).trans h.c⟩
variable {c : ByteArray} {P : List (Cel PNd)}
theorem SeekW.live {r : Int × Int} {s : SpotP} (h : SeekW P c r d W s) : ∃ i q, z0k P r.1 r.2 i q := by
 cases h <;> exact ⟨_, _, by assumption⟩
variable {q : PNd}
theorem SeekW.leafI {r : Int × Int} {s : SpotP} {c' v : ByteArray} (h : SeekW P c r d W s) (hq : z0k P r.1 r.2 i q) (hn : q.n = .leaf c' v) :
 d <= c'.size /\ s = ⟨if c' = c then 1 else 4, W ++ [r], if c' = c then 0 else com (rst c d) (rst c' d), d⟩ := by
 cases h with
 | leaf h2 hn2 h3 h4 =>
  have := (hq.uniq h2).2
  subst this
  rw [hn] at hn2
  cases hn2
  exact ⟨h4, rfl⟩
 | split h2 hn2 h3 h4 =>
  have := (hq.uniq h2).2
  subst this
  rw [hn] at hn2
  cases hn2
 | bare h2 hn2 h3 h4 h5 h6 =>
  have := (hq.uniq h2).2
  subst this
  rw [hn] at hn2
  cases hn2
 | down h2 hn2 h3 h4 h5 h6 h7 =>
  have := (hq.uniq h2).2
  subst this
  rw [hn] at hn2
  cases hn2
theorem SeekW.innerI {r : Int × Int} {s : SpotP} {pt : ByteArray} {L : List Kd} (h : SeekW P c r d W s) (hq : z0k P r.1 r.2 i q) (hn : q.n = .z0j k pt L) :
 (com (rst c d) pt < pt.size /\ s = ⟨3, W ++ [r], com (rst c d) pt, d⟩) \/ (com (rst c d) pt = pt.size /\ ∃ x, (byt (rst c d))[pt.size]? = some x /\ ((z0o L x.toNat = none /\ s = ⟨2, W ++ [r], x.toNat, d⟩) \/ ∃ kk, z0o L x.toNat = some kk /\ SeekW P c (kk.s, kk.g) (d + pt.size + 1) (W ++ [r]) s)) := by
 cases h with
 | leaf h2 hn2 h3 h4 =>
  have := (hq.uniq h2).2
  subst this
  rw [hn] at hn2
  cases hn2
 | split h2 hn2 h3 h4 =>
  have := (hq.uniq h2).2
  subst this
  rw [hn] at hn2
  cases hn2
  exact .inl ⟨h4, rfl⟩
 | bare h2 hn2 h3 h4 h5 h6 =>
  have := (hq.uniq h2).2
  subst this
  rw [hn] at hn2
  cases hn2
  exact .inr ⟨h4, _, h5, .inl ⟨h6, rfl⟩⟩
 | down h2 hn2 h3 h4 h5 h6 h7 =>
  have := (hq.uniq h2).2
  subst this
  rw [hn] at hn2
  cases hn2
  exact .inr ⟨h4, _, h5, .inr ⟨_, h6, h7⟩⟩
theorem SkN.keep {x : Nd} {r : Int × Int} (h : SkN u w slot gen x v a r d W w1) (hb : Below w1.heap.size w1 w2) : SkN u w slot gen x v a r d W w2 := by
 have e : ∀ {k : Nat} {o : Obj}, w1.heap[k]? = some o -> w2.heap[k]? = some o := fun h => (hb.block _ (lt_of_block h)).trans h
 exact ⟨e h.an, e h.sp, O.z0g h.ow (O.z0m (S := fun _ => False) hb) (fun _ _ h => h), e h.nd, e h.rf, h.b.trans (hb.mono (by have := lt_of_block h.an; omega))⟩
theorem SkN.turn {x : Nd} {r : Int × Int} {a' : Int} {d' : Nat} (h : SkN u w slot gen x v a r d W w1) (hM : Mod (· = u + 1) w1 w2) (hc : w2.heap[u + 1]? = some (.cells #[.int .i64 0, v, .int .i64 a', .int .i64 (d' : Nat)] 107 (0, 0))) : SkN u w slot gen x v a' r d' W w2 := by
 have e : ∀ {k : Nat} {o : Obj}, k ≠ u + 1 -> w1.heap[k]? = some o -> w2.heap[k]? = some o := fun hk h => (hM.block _ (lt_of_block h) hk).trans h
 exact ⟨e (by omega) h.an, hc, O.z0g h.ow hM (fun k hk e => by have := (O.z1w h.ow hk).1; have : k = u + 1 := e; omega), e (by omega) h.nd, e (by omega) h.rf, z0u h.b hM (by omega) (by have := lt_of_block h.an; omega)⟩
theorem SkN.at_ {x : Nd} {r : Int × Int} (h : SkN u w slot gen x v a r d W w1) (a' : Int) : SkN u w slot gen x v a' r d W (w1.setCell ⟨u + 1, 2, none⟩ (.int .i64 a')) :=
 h.turn (Mod.setCell (S := (· = u + 1)) (p := ⟨u + 1, 2, none⟩) (Mod.refl _ _) (.inl rfl) _) (by simpa using heap_set (i := 2) (v := .int .i64 a') h.sp)
theorem SkN.dep {x : Nd} {r : Int × Int} (h : SkN u w slot gen x v a r d W w1) (d' : Nat) : SkN u w slot gen x v a r d' W (w1.setCell ⟨u + 1, 3, none⟩ (.int .i64 d')) :=
 h.turn (Mod.setCell (S := (· = u + 1)) (p := ⟨u + 1, 3, none⟩) (Mod.refl _ _) (.inl rfl) _) (by simpa using heap_set (i := 3) (v := .int .i64 d') h.sp)
theorem SkN.ref {x : Nd} {r : Int × Int} {r' : Int × Int} (h : SkN u w slot gen x v a r d W w1) (hM : Mod (· = u + 1 + 1 + 1) w1 w2) (hc : w2.heap[u + 1 + 1 + 1]? = some (.cells #[.int .i64 r'.1, .int .u32 r'.2] 36 (0, 0))) : SkN u w slot gen x v a r' d W w2 := by
 have e : ∀ {k : Nat} {o : Obj}, k ≠ u + 1 + 1 + 1 -> w1.heap[k]? = some o -> w2.heap[k]? = some o := fun hk h => (hM.block _ (lt_of_block h) hk).trans h
 exact ⟨e (by omega) h.an, e (by omega) h.sp, O.z0g h.ow hM (fun k hk e => by have := (O.z1w h.ow hk).1; have : k = u + 1 + 1 + 1 := e; omega), e (by omega) h.nd, hc, z0u h.b hM (by omega) (by have := lt_of_block h.an; omega)⟩
theorem SkN.skI {x : Nd} {r : Int × Int} (h : SkN u w slot gen x v a r d W w1) : SkI u w slot gen r d W w1 := ⟨h.an, ⟨_, _, h.sp, h.ow⟩, ⟨_, _, _, _, _, _, h.nd⟩, h.rf, h.b⟩
theorem SkN.dOf {u : Nat} {w : World} {slot gen : Int} {x : Nd} {v : Value} {a : Int} {r : Int × Int} {d : Nat} {W : List (Int × Int)} {w1 : World} (h : SkN u w slot gen x v a r d W w1) : dOf (u + 1) w1 = d := by
 have := cell_of h.sp 3
 simp at this
 simp [T.dOf, this]
theorem set4_at {T : TypeId} {c : Nat} {a0 a1 a2 a3 : Value} (b0 b1 b2 b3 : Value) (h : w.heap[c]? = some (.cells #[a0, a1, a2, a3] T (0, 0))) :
 ((((w.setCell ⟨c, 0, none⟩ b0).setCell ⟨c, 1, none⟩ b1).setCell ⟨c, 2, none⟩ b2).setCell ⟨c, 3, none⟩ b3).heap[c]? = some (.cells #[b0, b1, b2, b3] T (0, 0)) /\ Mod (· = c) w ((((w.setCell ⟨c, 0, none⟩ b0).setCell ⟨c, 1, none⟩ b1).setCell ⟨c, 2, none⟩ b2).setCell ⟨c, 3, none⟩ b3) := by
 have stp : ∀ {A : World} (j : Nat) (v : Value), Mod (· = c) w A -> Mod (· = c) w (A.setCell ⟨c, j, none⟩ v) := fun j v h => Mod.setCell (S := (· = c)) (p := ⟨c, j, none⟩) h (.inl rfl) v
 refine ⟨?_, stp _ _ (stp _ _ (stp _ _ (stp _ _ (Mod.refl _ _))))⟩
 have := heap_set (i := 3) (v := b3) (heap_set (i := 2) (v := b2) (heap_set (i := 1) (v := b1) (heap_set (i := 0) (v := b0) h)))
 simpa using this
theorem z2f {B B' : Nat} {e : TypeId} {s n : Nat} {xs : List Value} (h : w.ownsRow B e s v n xs) (hb : B' <= B) : w.ownsRow B' e s v n xs := by
 obtain ⟨h1, h2 | ⟨g, cap, cur, a, b, c⟩⟩ := h
 ·exact ⟨h1, .inl h2⟩
 ·exact ⟨h1, .inr ⟨g, cap, cur, a, Nat.le_trans hb b, c⟩⟩
theorem SkN.fin {x : Nd} {r : Int × Int} (h : SkN u w slot gen x v a r d W w1) (hM : Mod (· = u + 1) w1 w2) : w2.ownsRow u 36 2 v W.length (z1v W) /\ Below u w w2 :=
 ⟨z2f (O.z0g h.ow hM (fun k hk e => by have := (O.z1w h.ow hk).1; have : k = u + 1 := e; omega)) (by omega), z0u h.b hM (by omega) (by have := lt_of_block h.an; omega)⟩
def bjL : List Nat := [0, 1, 2, 3, 4, 5, 7]
structure BJ (u : Nat) (W0 : World) (v : Value) (a d x : Int) (tab : Nat -> Value) (D : Nat -> Bool) (xs : Nat -> Value) (w : World) : Prop where
 m : Mod (· = u + 1) W0 w
 c : w.heap[u + 1]? = some (.cells #[.int .i64 (cond (D 6) 2 0), v, .int .i64 (cond (D 8) x a), .int .i64 d] 107 (0, 0))
 v : ∀ j, D j = true -> j ∈ bjL -> xs j = tab j
 o : D 3 = true \/ D 4 = true \/ D 8 = true -> D 2 = true
section
variable {u : Nat} {W0 w : World} {v : Value} {a d x : Int} {tab : Nat -> Value} {D : Nat -> Bool} {xs : Nat -> Value}
theorem BJ.start (hc : W0.heap[u + 1]? = some (.cells #[.int .i64 0, v, .int .i64 a, .int .i64 d] 107 (0, 0))) : BJ u W0 v a d x tab (fun _ => false) (fun _ => undef) W0.drew :=
 ⟨(Mod.refl _ _).drew, hc, fun j h => (by cases h), fun h => (by simp at h)⟩
theorem BJ.vs (h : BJ u W0 v a d x tab D xs w) {i : Nat} {q : Value} (hu : i ∈ bjL -> q = tab i) : ∀ j, (D j || j == i) = true -> j ∈ bjL -> (if j = i then q else xs j) = tab j := fun j hj hr => by
 by_cases e : j = i
 ·subst e; simp only [if_pos]; exact hu hr
 ·simp only [if_neg e]; exact h.v j (by simpa [e] using hj) hr
theorem BJ.calm (h : BJ u W0 v a d x tab D xs w) {i : Nat} {q : Value} (h6 : i ≠ 6) (h8 : i ≠ 8) (hu : i ∈ bjL -> q = tab i) (ho : i = 3 \/ i = 4 -> D 2 = true) : BJ u W0 v a d x tab (fun j => D j || j == i) (fun j => if j = i then q else xs j) w := by
 have n6 : ¬ 6 = i := fun e => h6 e.symm
 have n8 : ¬ 8 = i := fun e => h8 e.symm
 have e6 : (D 6 || 6 == i) = D 6 := by simp [n6]
 have e8 : (D 8 || 8 == i) = D 8 := by simp [n8]
 refine ⟨h.m, by simp only [e6, e8]; exact h.c, h.vs hu, fun e => ?_⟩
 simp only [e8, Bool.or_eq_true, beq_iff_eq] at e ⊢
 rcases e with (e | e) | (e | e) | e
 ·exact .inl (h.o (.inl e))
 ·exact .inl (ho (.inl e.symm))
 ·exact .inl (h.o (.inr (.inl e)))
 ·exact .inl (ho (.inr e.symm))
 ·exact .inl (h.o (.inr (.inr e)))
theorem BJ.st6 (h : BJ u W0 v a d x tab D xs w) {q : Value} : BJ u W0 v a d x tab (fun j => D j || j == 6) (fun j => if j = 6 then q else xs j) (w.setCell ⟨u + 1, 0, none⟩ (.int .i64 2)) := by
 refine ⟨h.m.setCell (p := ⟨u + 1, 0, none⟩) (.inl rfl) _, ?_, h.vs (fun e => absurd e (by decide)), fun e => ?_⟩
 ·have := heap_set (i := 0) (v := .int .i64 2) h.c
  simpa using this
 ·simpa using h.o (by simpa using e)
theorem BJ.st8 (h : BJ u W0 v a d x tab D xs w) (h2 : D 2 = true) {q : Value} : BJ u W0 v a d x tab (fun j => D j || j == 8) (fun j => if j = 8 then q else xs j) (w.setCell ⟨u + 1, 2, none⟩ (.int .i64 x)) := by
 refine ⟨h.m.setCell (p := ⟨u + 1, 2, none⟩) (.inl rfl) _, ?_, h.vs (fun e => absurd e (by decide)), fun _ => by simp [h2]⟩
 have := heap_set (i := 2) (v := .int .i64 x) h.c
 simpa using this
end
theorem ba_inj {a b : ByteArray} (h : a.toList = b.toList) : a = b := by
 rw [ByteArray.toList_eq, ByteArray.toList_eq] at h
 cases a
 cases b
 congr
 exact Array.toList_inj.1 h
theorem wrap_byte (n : Int) (h0 : 0 <= n) (h1 : n < 256) : IntKind.i64.wrap n = n := by rw [IntKind.wrap_i64]; omega
theorem wrap_u8 (x : UInt8) : IntKind.i64.wrap (x.toNat : Int) = (x.toNat : Int) := wrap_byte _ (by omega) (by have := x.toNat_lt; omega)
theorem jump_self {F : (Nat -> Value) -> Act} {a : Act} {p : Prop} (h : a = F (fun i => a.tmps.getD i undef)) (hp : p) : ∃ f, a = F f /\ p := ⟨_, h, hp⟩
theorem SeekW.depth {r : Int × Int} {s : SpotP} (h : SeekW P c r d W s) : d <= c.size := by
 cases h <;> assumption
end Go.Proofs.YtgdmfledhhoedaaGreatDoor.T
