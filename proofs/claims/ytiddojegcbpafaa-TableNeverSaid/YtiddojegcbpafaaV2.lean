/- TableNever: the calls that came in; what stands at the heads of its loops. -/
--DEV
import Derived.Test.YtiddojegcbpafaaTK
import Derived.Test.YtiddojegcbpafaaV1
import Derived.Test.YtiddojegcbpafaaQ2
--END
import Derived.Maps.AppendAt
import Derived.OwnWalk
namespace Go.Burg
open Go Go.RowKit
/-- Two slices lie in blocks of their own. -/
def Apart (v u : Value) : Prop := ∀ k, v.ownBlock = some k → u.ownBlock ≠ some k
theorem Apart.symm {v u : Value} (h : Apart v u) : Apart u v := fun k hk e => h k e hk
theorem Apart.row {v u : Value} (h : Apart v u) : v.ownBlock = none ∨ v.ownBlock ≠ u.ownBlock := by
  cases hv : v.ownBlock with
  | none => exact .inl rfl
  | some k => exact .inr fun e => h k hv e.symm
theorem Apart.nil (v : Value) : Apart v (.slice none 0 0) := fun k _ e => by simp [Value.ownBlock] at e
/-- Behind an append to u. -/
theorem Apart.grown {w : World} {base size n : Nat} {e : TypeId} {xs : List Value} {v u u' : Value} (h : Apart v u) (hv : w.ownsRow base e size v n xs) (hl : u'.ownBlock = u.ownBlock ∨ u'.ownBlock = some w.heap.size) : Apart v u' := fun k hk e => by
  rcases hl with h1 | h1
  · exact h k hk (h1 ▸ e)
  · rw [h1] at e
    have := (hv.lt k hk).2
    cases e
    omega
theorem own_same {w w' : World} {base size n : Nat} {e : TypeId} {v : Value} {xs : List Value} (h : w.ownsRow base e size v n xs) (k : ∀ g, v.ownBlock = some g → w'.heap[g]? = w.heap[g]?) : w'.ownsRow base e size v n xs := by
  refine ⟨h.1, ?_⟩
  rcases h.2 with hn | ⟨g, cap, cur, rfl, hb, hg, rest⟩
  · exact .inl hn
  · exact .inr ⟨g, cap, cur, rfl, hb, (k g rfl).trans hg, rest⟩
theorem own_below {w w' : World} {base size n : Nat} {e : TypeId} {v : Value} {xs : List Value} (h : w.ownsRow base e size v n xs) (hb : Below w.heap.size w w') : w'.ownsRow base e size v n xs := own_same h fun g hg => hb.block g (h.lt g hg).2
/-- An owned row's form. -/
theorem row_form {w : World} {base size n : Nat} {e : TypeId} {v : Value} {xs : List Value} (h : w.ownsRow base e size v n xs) : ∃ a cap, v = .slice a n cap ∧ (0 < n → ∃ g, a = some ⟨g, 0, none⟩ ∧ n ≤ cap ∧ cap ≤ maxLen) := by
  rcases h.2 with ⟨rfl, rfl⟩ | ⟨g, cap, cur, rfl, _, _, h1, h2, _⟩
  · exact ⟨none, 0, rfl, fun h => absurd h (Nat.lt_irrefl _)⟩
  · exact ⟨_, cap, rfl, fun _ => ⟨g, rfl, h1, h2⟩⟩
theorem news3 (w : World) (H : Nat) (v1 v2 v3 : Value) (T : TypeId) (h : w.heap[H]? = some (.cells #[v1, v2, v3] T (0, 0))) : ∀ j u, [v1, v2, v3][j]? = some u → w.cell? ((⟨H, 0, none⟩ : Addr).add j) = some u := by
  intro j u hj
  rcases j with _ | _ | _ | j
  · simp at hj; subst hj; exact cell_of h 0
  · simp at hj; subst hj; exact cell_of h 1
  · simp at hj; subst hj; exact cell_of h 2
  · simp at hj
end Go.Burg
namespace Go.Proofs.Ytiddojegcbpafaa.T
set_option maxRecDepth 8000
open Go.ChangeShapes Go.WideShapes Go.ChangeAt Go.RowKit Go.Burg
open Go.Burg.Lk
--STATE
theorem mkRef (k : Nat) (g : Int) (hk : k < 4096) (hg : 0 ≤ g ∧ g ≤ 4294967295) : ∃ r : RefK, r.1.1 = k ∧ r.1.2 = g :=
  ⟨⟨(k, g), by
    simp only [Lit.wf, Bool.and_eq_true, decide_eq_true_eq]
    exact ⟨⟨by show (-9223372036854775808 : Int) ≤ k; omega, by show (k : Int) ≤ 9223372036854775807; omega⟩, hg⟩⟩, rfl, rfl⟩
theorem cellsND : Try.prog.cellsOf 59 = 2 := by kernel_rfl
def GoodND (cs : List Value) : Prop := ∃ d : Int × Int, cs = [.int .u8 d.1, .int .u8 d.2] ∧ (0 ≤ d.1 ∧ d.1 ≤ 255) ∧ (0 ≤ d.2 ∧ d.2 ≤ 255)
theorem list2 {α : Type} (l : List α) (h : l.length = 2) : ∃ a b, l = [a, b] := by
  rcases l with _ | ⟨a, _ | ⟨b, _ | ⟨c, l⟩⟩⟩ <;> simp at h
  exact ⟨a, b, rfl⟩
section
variable {H : Type} {enc : TypeId × Value → H} {w : World} {base : Nat} {spare : Nat → Bool} {held : Bool}
theorem good_nd (n : Nat) (cs : List Value) (x : DataW H × List MemPlace) (h : DataW.trod enc Try.prog w base spare held n 59 cs = some x) : GoodND cs := by
  obtain ⟨xs, m, _, _, hl, hxs, hf⟩ := DataW.trod_struct Try.underlying59 h
  rw [cellsND] at hl
  obtain ⟨c0, c1, rfl⟩ := list2 cs hl
  have hsz : xs.length = 2 := hxs
  have i0 : (xs[0]?).isSome = true := by simp [hsz]
  have i1 : (xs[1]?).isSome = true := by simp [hsz]
  have e1 : Try.prog.cellsOf 5 = 1 := by kernel_rfl
  have h0 : DataW.trod enc Try.prog w base spare held m 5 [c0] = xs[0]? := by simpa [e1] using hf 0 _ rfl
  have h1 : DataW.trod enc Try.prog w base spare held m 5 [c1] = xs[1]? := by simpa [e1] using hf 1 _ rfl
  obtain ⟨a, rfl, wa⟩ := cell1 Try.underlying5 i0 h0
  obtain ⟨b, rfl, wb⟩ := cell1 Try.underlying5 i1 h1
  exact ⟨⟨a, b⟩, rfl, u8_of wa, u8_of wb⟩
def NDeedsAt (w : World) (a : Option Addr) (len : Nat) (ds : Nat → Int × Int) : Prop :=
  0 < len → ∃ bl off, a = some ⟨bl, off, none⟩ ∧ bl < w.heap.size ∧ ∀ i, i < len → (w.cell? ⟨bl, off + i * 2, none⟩ = some (.int .u8 (ds i).1) ∧ w.cell? ⟨bl, off + i * 2 + 1, none⟩ = some (.int .u8 (ds i).2)) ∧ (0 ≤ (ds i).1 ∧ (ds i).1 ≤ 255) ∧ (0 ≤ (ds i).2 ∧ (ds i).2 ≤ 255)
theorem nds_of {a : Option Addr} {len : Nat} (h : FlatAt w a len 2 GoodND) : ∃ ds, NDeedsAt w a len ds := by
  by_cases hlen : 0 < len
  · obtain ⟨bl, off, ha, hbl, hall⟩ := h hlen
    have : ∀ i, i < len → ∃ d : Int × Int, (w.cell? ⟨bl, off + i * 2, none⟩ = some (.int .u8 d.1) ∧ w.cell? ⟨bl, off + i * 2 + 1, none⟩ = some (.int .u8 d.2)) ∧ (0 ≤ d.1 ∧ d.1 ≤ 255) ∧ (0 ≤ d.2 ∧ d.2 ≤ 255) := fun i hi => by
      obtain ⟨cs, ⟨d, rfl, ok⟩, hj⟩ := hall i hi
      exact ⟨d, ⟨hj 0 (by simp), hj 1 (by simp)⟩, ok⟩
    obtain ⟨ds, hds⟩ := Deep.choose_lt this
    exact ⟨ds, fun _ => ⟨bl, off, ha, hbl, hds⟩⟩
  · exact ⟨fun _ => default, fun h => absurd h hlen⟩
theorem nd_facts {w wr : World} {a : Option Addr} {len k : Nat} {ds : Nat → Int × Int} (hD : NDeedsAt w a len ds) (hB : Below w.heap.size w wr) (hk : k < len) :
    ∃ bl off, a = some ⟨bl, off, none⟩ ∧ bl < w.heap.size ∧ (wr.cell? ⟨bl, off + k * 2, none⟩ = some (.int .u8 (ds k).1) ∧ wr.cell? ⟨bl, off + k * 2 + 1, none⟩ = some (.int .u8 (ds k).2)) ∧ (0 ≤ (ds k).1 ∧ (ds k).1 ≤ 255) ∧ (0 ≤ (ds k).2 ∧ (ds k).2 ≤ 255) := by
  obtain ⟨bl, off, ha, hbl, hall⟩ := hD (by omega)
  obtain ⟨⟨d0, d1⟩, ok⟩ := hall k hk
  have hc : ∀ j, wr.cell? ⟨bl, j, none⟩ = w.cell? ⟨bl, j, none⟩ := fun j => World.cell?_of_block (w := w) (hB.block bl hbl)
  exact ⟨bl, off, ha, hbl, ⟨(hc _).trans d0, (hc _).trans d1⟩, ok⟩
end

/-- The blocks of a table and its tree. -/
structure TB where
  x : Nat
  t : Nat
  sb : Nat
  sg : Nat
  kb : Nat
  km : Nat
/-- The table and its tree, in a world that has grown. -/
structure Core (w : World) (B : TB) (base : Nat) (l : Nat → Ten) (ls : List (Cel Nd)) (L : List (RefK × Wd)) (wr : World) : Prop where
  tab : TabAt 82 wr B.x B.t l
  tree : TreeAt wr B.t B.sb B.sg B.kb B.km ls L
  ge : base ≤ wr.heap.size
  lt : B.x < base ∧ B.t < base ∧ B.sb < base ∧ B.sg < base ∧ B.kb < base ∧ B.km < base
  lo : w.heap.size ≤ B.x ∧ w.heap.size ≤ B.sg ∧ w.heap.size ≤ B.km ∧ w.heap.size ≤ base
  ne : B.x ≠ B.t ∧ B.x ≠ B.sb ∧ B.x ≠ B.sg ∧ B.x ≠ B.kb ∧ B.x ≠ B.km
  bel : Below w.heap.size w wr
section
variable {w wr wr' : World} {B : TB} {base : Nat} {l l' : Nat → Ten} {ls ls' : List (Cel Nd)} {L L' : List (RefK × Wd)}
theorem Core.keep (h : Core w B base l ls L wr) (k : Below wr.heap.size wr wr') : Core w B base l ls L wr' :=
  ⟨h.tab.keep k, h.tree.keep k, Nat.le_trans h.ge k.size, h.lt, h.lo, h.ne, below_chain h.bel k h.bel.size⟩
theorem Core.alloc (h : Core w B base l ls L wr) (o : Obj) : Core w B base l ls L (wr.alloc o) := h.keep ((Below.refl _ _).alloc (Nat.le_refl _) _)
theorem Core.turn (h : Core w B base l ls L wr) (hM : Mod (COwn B.x B.sg B.km) wr wr') (h1 : TabAt 82 wr' B.x B.t l') (h2 : TreeAt wr' B.t B.sb B.sg B.kb B.km ls' L') : Core w B base l' ls' L' wr' :=
  ⟨h1, h2, Nat.le_trans h.ge hM.size, h.lt, h.lo, h.ne, mod_below h.bel hM (by have := h.lo; rintro i (e | e | e) <;> omega) h.bel.size⟩
theorem Core.grown (h : Core w B base l ls L wr) {v : Value} (hv : ∀ k, v.ownBlock = some k → base ≤ k) (hg : wr.grownBy wr' v.ownBlock) : Core w B base l ls L wr' := by
  have hM : Mod (fun i => v.ownBlock = some i) wr wr' := ⟨hg.os, hg.tape, hg.output, hg.size, fun k hk hn => hg.block k hk (fun e => hn e.symm)⟩
  have lt := h.lt
  have lo := h.lo
  exact ⟨h.tab.mod hM (fun e => by have := hv _ e; omega), h.tree.mod hM (fun e => by have := hv _ e; omega) (fun e => by have := hv _ e; omega) (fun e => by have := hv _ e; omega) (fun e => by have := hv _ e; omega) (fun e => by have := hv _ e; omega),
    Nat.le_trans h.ge hg.size, lt, lo, h.ne, mod_below h.bel hM (fun i e => by have := hv i e; omega) h.bel.size⟩
theorem Core.row {v : Value} {n : Nat} {xs : List Value} (h : Core w B base l ls L wr) (hM : Mod (COwn B.x B.sg B.km) wr wr') (hr : wr.ownsRow base 35 3 v n xs) : wr'.ownsRow base 35 3 v n xs :=
  own_same hr fun g hg => by
    have h1 := hr.lt g hg
    have lt := h.lt
    exact hM.block g h1.2 (by rintro (e | e | e) <;> omega)
end
/-- What stands at a round's head: the table, the live handles, the dead ones. -/
structure HS (w : World) (B : TB) (base : Nat) (v5 v6 : Value) (lv dd : List Hd) (l : Nat → Ten) (ls : List (Cel Nd)) (L : List (RefK × Wd)) (wr : World) : Prop where
  c : Core w B base l ls L wr
  r5 : wr.ownsRow base 35 3 v5 lv.length (hcells lv)
  r6 : wr.ownsRow base 35 3 v6 dd.length (hcells dd)
  a : Apart v5 v6
/-- .. and those that stay, while they are told apart. -/
structure HS3 (w : World) (B : TB) (base : Nat) (v5 v6 v12 : Value) (lv dd lf : List Hd) (l : Nat → Ten) (ls : List (Cel Nd)) (L : List (RefK × Wd)) (wr : World) : Prop where
  c : Core w B base l ls L wr
  r5 : wr.ownsRow base 35 3 v5 lv.length (hcells lv)
  r6 : wr.ownsRow base 35 3 v6 dd.length (hcells dd)
  r12 : wr.ownsRow base 35 3 v12 lf.length (hcells lf)
  a56 : Apart v5 v6
  a5 : Apart v5 v12
  a6 : Apart v6 v12
section
variable {w wr wr' : World} {B : TB} {base : Nat} {l l' : Nat → Ten} {ls ls' : List (Cel Nd)} {L L' : List (RefK × Wd)} {v5 v6 v12 : Value} {lv dd lf : List Hd}
theorem HS.keep (h : HS w B base v5 v6 lv dd l ls L wr) (k : Below wr.heap.size wr wr') : HS w B base v5 v6 lv dd l ls L wr' := ⟨h.c.keep k, own_below h.r5 k, own_below h.r6 k, h.a⟩
theorem HS.alloc (h : HS w B base v5 v6 lv dd l ls L wr) (o : Obj) : HS w B base v5 v6 lv dd l ls L (wr.alloc o) := h.keep ((Below.refl _ _).alloc (Nat.le_refl _) _)
theorem HS.turn (h : HS w B base v5 v6 lv dd l ls L wr) (hM : Mod (COwn B.x B.sg B.km) wr wr') (h1 : TabAt 82 wr' B.x B.t l') (h2 : TreeAt wr' B.t B.sb B.sg B.kb B.km ls' L') : HS w B base v5 v6 lv dd l' ls' L' wr' :=
  ⟨h.c.turn hM h1 h2, h.c.row hM h.r5, h.c.row hM h.r6, h.a⟩
theorem HS.grow5 {v : Value} {n : Hd} (h : HS w B base v5 v6 lv dd l ls L wr) (ho : wr'.ownsRow base 35 3 v (lv.length + 1) (hcells lv ++ [.int .i64 n.tn, .int .u32 n.gn, .int .u8 n.rt])) (hg : wr.grownBy wr' v5.ownBlock) (hl : v.ownBlock = v5.ownBlock ∨ v.ownBlock = some wr.heap.size) :
    HS w B base v v6 (lv ++ [n]) dd l ls L wr' :=
  ⟨h.c.grown (fun k e => (h.r5.lt k e).1) hg, by rw [List.length_append, hcells_app]; exact ho, h.r6.kept hg h.a.symm.row, (h.a.symm.grown h.r6 hl).symm⟩
theorem HS.three (h : HS w B base v5 v6 lv dd l ls L wr) : HS3 w B base v5 v6 (.slice none 0 0) lv dd [] l ls L wr := ⟨h.c, h.r5, h.r6, World.ownsRow_nil _ _ _ _, h.a, Apart.nil _, Apart.nil _⟩
theorem HS3.two (h : HS3 w B base v5 v6 v12 lv dd lf l ls L wr) : HS w B base v12 v6 lf dd l ls L wr := ⟨h.c, h.r12, h.r6, h.a6.symm⟩
theorem HS3.keep (h : HS3 w B base v5 v6 v12 lv dd lf l ls L wr) (k : Below wr.heap.size wr wr') : HS3 w B base v5 v6 v12 lv dd lf l ls L wr' := ⟨h.c.keep k, own_below h.r5 k, own_below h.r6 k, own_below h.r12 k, h.a56, h.a5, h.a6⟩
theorem HS3.alloc (h : HS3 w B base v5 v6 v12 lv dd lf l ls L wr) (o : Obj) : HS3 w B base v5 v6 v12 lv dd lf l ls L (wr.alloc o) := h.keep ((Below.refl _ _).alloc (Nat.le_refl _) _)
theorem HS3.grow6 {v : Value} {n : Hd} (h : HS3 w B base v5 v6 v12 lv dd lf l ls L wr) (ho : wr'.ownsRow base 35 3 v (dd.length + 1) (hcells dd ++ [.int .i64 n.tn, .int .u32 n.gn, .int .u8 n.rt])) (hg : wr.grownBy wr' v6.ownBlock) (hl : v.ownBlock = v6.ownBlock ∨ v.ownBlock = some wr.heap.size) :
    HS3 w B base v5 v v12 lv (dd ++ [n]) lf l ls L wr' :=
  ⟨h.c.grown (fun k e => (h.r6.lt k e).1) hg, h.r5.kept hg h.a56.row, by rw [List.length_append, hcells_app]; exact ho, h.r12.kept hg h.a6.symm.row, h.a56.grown h.r5 hl, h.a5, (h.a6.symm.grown h.r12 hl).symm⟩
theorem HS3.grow12 {v : Value} {n : Hd} (h : HS3 w B base v5 v6 v12 lv dd lf l ls L wr) (ho : wr'.ownsRow base 35 3 v (lf.length + 1) (hcells lf ++ [.int .i64 n.tn, .int .u32 n.gn, .int .u8 n.rt])) (hg : wr.grownBy wr' v12.ownBlock) (hl : v.ownBlock = v12.ownBlock ∨ v.ownBlock = some wr.heap.size) :
    HS3 w B base v5 v6 v lv dd (lf ++ [n]) l ls L wr' :=
  ⟨h.c.grown (fun k e => (h.r12.lt k e).1) hg, h.r5.kept hg h.a5.row, h.r6.kept hg h.a6.row, by rw [List.length_append, hcells_app]; exact ho, h.a56, h.a5.grown h.r5 hl, h.a6.grown h.r6 hl⟩
/-- A handle's cells. -/
theorem hrow {xs : List Hd} {g cap i : Nat} {h : Hd} (hr : wr.ownsRow base 35 3 (.slice (some ⟨g, 0, none⟩) xs.length cap) xs.length (hcells xs)) (hi : xs[i]? = some h) :
    wr.cell? ⟨g, i * 3, none⟩ = some (.int .i64 h.tn) ∧ wr.cell? ⟨g, i * 3 + 1, none⟩ = some (.int .u32 h.gn) ∧ wr.cell? ⟨g, i * 3 + 2, none⟩ = some (.int .u8 h.rt) := by
  have hl := (List.getElem?_eq_some_iff.1 hi).1
  obtain ⟨h1, h2, h3⟩ := hcells_at hi
  exact ⟨(hr.cellAt (i * 3) (by omega)).trans h1, (hr.cellAt (i * 3 + 1) (by omega)).trans h2, (hr.cellAt (i * 3 + 2) (by omega)).trans h3⟩
end
/-- At the head of a round of calls. -/
def NR (w : World) (B : TB) (base k : Nat) (v5 v6 : Value) (wr : World) : Prop :=
  ∃ l ls L lv dd, NInv k l ls ∧ (∀ h ∈ lv, Hd.Live l h) ∧ (∀ h ∈ dd, Hd.Dead l h) ∧ lv.length + dd.length ≤ k ∧ HS w B base v5 v6 lv dd l ls L wr
end Go.Proofs.Ytiddojegcbpafaa.T
