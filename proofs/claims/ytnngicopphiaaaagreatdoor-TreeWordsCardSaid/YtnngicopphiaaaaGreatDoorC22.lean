/- Part 22 of 51 of a proof: lemmas on the functions that it reaches. -/
import Derived.Test.YtnngicopphiaaaaGreatDoorRows
import Derived.Test.YtnngicopphiaaaaGreatDoorC02
import Derived.Deep.QuietTactic
import Derived.OwnWalk
import Derived.Laws.Bits64b
import Derived.Laws.BitsAllLaws
import Derived.WalkSpells
namespace Go.Burg
open Go Go.RowKit
theorem blk_below {w w1 : World} {B b : Nat} {o : Obj} (h : w.heap[b]? = some o) (hb : Below B w w1) (hB : b < B) : w1.heap[b]? = some o := (hb.block b hB).trans h
theorem blk_alloc {w : World} {b : Nat} {o o' : Obj} (h : w.heap[b]? = some o) : (w.alloc o').heap[b]? = some o := (Below.heap_alloc _ _ _ (lt_of_block h)).trans h
theorem below_drewN {B n : Nat} {a b : World} (h : Below B a b) : Below B a (b.drewN n) := ⟨h.os, h.tape, h.output, h.size, h.block⟩
structure Cel (α : Type) where
  is : Bool
  x : α
  gen : Int
structure Sl where
  a : Option Addr
  n : Nat
  c : Nat
structure Nd where
  kind : Int
  code : ByteArray
  value : ByteArray
  path : ByteArray
  bytes : Sl
  kids : Sl
  planted : Bool
  died : Bool
def Nd.V (x : Nd) : Value := (.agg #[.int .i64 x.kind, .string x.code, .string x.value, .string x.path, .slice x.bytes.a x.bytes.n x.bytes.c, .slice x.kids.a x.kids.n x.kids.c, .bool x.planted, .bool x.died])
def Nd.zero : Nd := ⟨0, ⟨#[]⟩, ⟨#[]⟩, ⟨#[]⟩, ⟨none, 0, 0⟩, ⟨none, 0, 0⟩, false, false⟩
def Cel.room {α : Type} (c : Cel α) : Bool := !c.is && decide (c.gen < 4294967295)
def First {α : Type} (l : List (Cel α)) (r : Int) : Prop :=
  (∃ (k : Nat) (c : Cel α), r = k ∧ l[k]? = some c ∧ c.room = true ∧ ∀ j, j < k → ∀ d : Cel α, l[j]? = some d → d.room = false) ∨ (r = -1 ∧ ∀ (j : Nat) (d : Cel α), l[j]? = some d → d.room = false)
theorem First.at {α : Type} {l : List (Cel α)} {r : Int} (h : First l r) {k : Nat} {c : Cel α} (hk : l[k]? = some c) (hc : c.room = true) (hb : ∀ j, j < k → ∀ d : Cel α, l[j]? = some d → d.room = false) : r = k := by
  rcases h with ⟨k', c', rfl, h1, h2, h3⟩ | ⟨_, h⟩
  · rcases Nat.lt_trichotomy k k' with h | rfl | h
    · rw [h3 k h c hk] at hc; cases hc
    · rfl
    · rw [hb k' h c' h1] at h2; cases h2
  · rw [h k c hk] at hc; cases hc
theorem First.none {α : Type} {l : List (Cel α)} {r : Int} (h : First l r) (hb : ∀ j, j < l.length → ∀ d : Cel α, l[j]? = some d → d.room = false) : r = -1 := by
  rcases h with ⟨k, c, rfl, h1, h2, _⟩ | ⟨h, _⟩
  · rw [hb k (List.getElem?_eq_some_iff.1 h1).1 c h1] at h2; cases h2
  · exact h
def NRow (c : Cel Nd) : List Value := [.bool c.is, .int .i64 c.x.kind, .string c.x.code, .string c.x.value, .string c.x.path, (.slice c.x.bytes.a c.x.bytes.n c.x.bytes.c), (.slice c.x.kids.a c.x.kids.n c.x.kids.c), .bool c.x.planted, .bool c.x.died, .int .u32 c.gen]
structure CellsN (tc : TypeId) (w : World) (g : Nat) (l : List (Cel Nd)) : Prop where
  hg : ∃ cs, w.heap[g]? = some (.cells cs tc (0, 0)) ∧ ∀ i c, l[i]? = some c → ∀ j, j < 10 → cs[i * 10 + j]? = (NRow c)[j]?
  gen : ∀ c ∈ l, 0 ≤ c.gen ∧ c.gen ≤ 4294967295
structure SlabN (tc ts : TypeId) (w : World) (b g : Nat) (l : List (Cel Nd)) : Prop where
  hb : w.heap[b]? = some (.cells #[.slice (some ⟨g, 0, none⟩) l.length l.length] ts (0, 0))
  hc : CellsN tc w g l
  ne : g ≠ b
  pos : 1 ≤ l.length
  top : l.length ≤ 4096
section
variable {tc ts : TypeId} {w w' : World} {b g : Nat} {l : List (Cel Nd)}
theorem CellsN.lt (h : CellsN tc w g l) : g < w.heap.size := by
  obtain ⟨cs, h1, _⟩ := h.hg
  exact lt_of_block h1
theorem SlabN.blt (h : SlabN tc ts w b g l) : b < w.heap.size := lt_of_block h.hb
theorem SlabN.glt (h : SlabN tc ts w b g l) : g < w.heap.size := h.hc.lt
theorem CellsN.same (h : CellsN tc w g l) (e : w'.heap[g]? = w.heap[g]?) : CellsN tc w' g l :=
  ⟨by obtain ⟨cs, h1, h2⟩ := h.hg; exact ⟨cs, e.trans h1, h2⟩, h.gen⟩
theorem SlabN.same (h : SlabN tc ts w b g l) (e1 : w'.heap[b]? = w.heap[b]?) (e2 : w'.heap[g]? = w.heap[g]?) : SlabN tc ts w' b g l :=
  ⟨e1.trans h.hb, h.hc.same e2, h.ne, h.pos, h.top⟩
theorem SlabN.keep (h : SlabN tc ts w b g l) (k : Below w.heap.size w w') : SlabN tc ts w' b g l :=
  h.same (k.block b h.blt) (k.block g h.glt)
theorem SlabN.below {B : Nat} (h : SlabN tc ts w b g l) (k : Below B w w') (h1 : b < B) (h2 : g < B) : SlabN tc ts w' b g l :=
  h.same (k.block b h1) (k.block g h2)
theorem SlabN.alloc (h : SlabN tc ts w b g l) (o : Obj) : SlabN tc ts (w.alloc o) b g l :=
  h.same (Below.heap_alloc _ _ _ h.blt) (Below.heap_alloc _ _ _ h.glt)
theorem SlabN.mod {S : Nat → Prop} (h : SlabN tc ts w b g l) (k : Mod S w w') (h1 : ¬ S b) (h2 : ¬ S g) : SlabN tc ts w' b g l :=
  h.same (k.block b h.blt h1) (k.block g h.glt h2)
theorem CellsN.cell (h : CellsN tc w g l) {i : Nat} {c : Cel Nd} (hi : l[i]? = some c) :
    (w.cell? ⟨g, i * 10, none⟩ = some (.bool c.is) ∧ w.cell? ⟨g, i * 10 + 1, none⟩ = some (.int .i64 c.x.kind) ∧ w.cell? ⟨g, i * 10 + 2, none⟩ = some (.string c.x.code) ∧ w.cell? ⟨g, i * 10 + 3, none⟩ = some (.string c.x.value) ∧ w.cell? ⟨g, i * 10 + 4, none⟩ = some (.string c.x.path) ∧ w.cell? ⟨g, i * 10 + 5, none⟩ = some (.slice c.x.bytes.a c.x.bytes.n c.x.bytes.c) ∧ w.cell? ⟨g, i * 10 + 6, none⟩ = some (.slice c.x.kids.a c.x.kids.n c.x.kids.c) ∧ w.cell? ⟨g, i * 10 + 7, none⟩ = some (.bool c.x.planted) ∧ w.cell? ⟨g, i * 10 + 8, none⟩ = some (.bool c.x.died) ∧ w.cell? ⟨g, i * 10 + 9, none⟩ = some (.int .u32 c.gen)) ∧ (∀ j, w.frozen? ⟨g, j, none⟩ = false) ∧ 0 ≤ c.gen ∧ c.gen ≤ 4294967295 := by
  obtain ⟨cs, h1, h2⟩ := h.hg
  have hc := cell_of h1
  have h3 := h2 i c hi
  have hgen := h.gen c (List.mem_of_getElem? hi)
  exact ⟨⟨(hc _).trans (h3 0 (by omega)), (hc _).trans (h3 1 (by omega)), (hc _).trans (h3 2 (by omega)), (hc _).trans (h3 3 (by omega)), (hc _).trans (h3 4 (by omega)), (hc _).trans (h3 5 (by omega)), (hc _).trans (h3 6 (by omega)), (hc _).trans (h3 7 (by omega)), (hc _).trans (h3 8 (by omega)), (hc _).trans (h3 9 (by omega))⟩, free_of h1, hgen⟩
theorem SlabN.head (h : SlabN tc ts w b g l) : w.cell? ⟨b, 0, none⟩ = some (.slice (some ⟨g, 0, none⟩) l.length l.length) ∧ w.frozen? ⟨b, 0, none⟩ = false := ⟨cell_of h.hb 0, free_of h.hb 0⟩
theorem set_get {cs : Array Value} {i j : Nat} {v : Value} : (cs.setIfInBounds i v)[j]? = if i = j then (if i < cs.size then some v else none) else cs[j]? := by
  rw [Array.getElem?_setIfInBounds]
theorem CellsN.put (h : CellsN tc w g l) {i : Nat} {c : Cel Nd} (hi : l[i]? = some c) (d : Cel Nd) (h0 : 0 ≤ d.gen ∧ d.gen ≤ 4294967295) :
    CellsN tc ((((((((((w.setCell ⟨g, i * 10, none⟩ (.bool d.is)).setCell ⟨g, i * 10 + 1, none⟩ (.int .i64 d.x.kind)).setCell ⟨g, i * 10 + 2, none⟩ (.string d.x.code)).setCell ⟨g, i * 10 + 3, none⟩ (.string d.x.value)).setCell ⟨g, i * 10 + 4, none⟩ (.string d.x.path)).setCell ⟨g, i * 10 + 5, none⟩ (.slice d.x.bytes.a d.x.bytes.n d.x.bytes.c)).setCell ⟨g, i * 10 + 6, none⟩ (.slice d.x.kids.a d.x.kids.n d.x.kids.c)).setCell ⟨g, i * 10 + 7, none⟩ (.bool d.x.planted)).setCell ⟨g, i * 10 + 8, none⟩ (.bool d.x.died)).setCell ⟨g, i * 10 + 9, none⟩ (.int .u32 d.gen)) g (l.set i d) := by
  obtain ⟨cs, h1, h2⟩ := h.hg
  refine ⟨⟨_, heap_set (heap_set (heap_set (heap_set (heap_set (heap_set (heap_set (heap_set (heap_set (heap_set h1))))))))), fun j e hj k hk => ?_⟩, fun d hd => ?_⟩
  · have hil : i < l.length := (List.getElem?_eq_some_iff.1 hi).1
    have a9 : cs[i * 10 + 9]? = some (.int .u32 c.gen) := h2 i c hi 9 (by omega)
    have s3 : i * 10 + 9 < cs.size := (Array.getElem?_eq_some_iff.1 a9).1
    by_cases hij : i = j
    · subst hij
      rw [List.getElem?_set_self hil] at hj
      cases hj
      rcases (by omega : k = 0 ∨ k = 1 ∨ k = 2 ∨ k = 3 ∨ k = 4 ∨ k = 5 ∨ k = 6 ∨ k = 7 ∨ k = 8 ∨ k = 9) with rfl | rfl | rfl | rfl | rfl | rfl | rfl | rfl | rfl | rfl <;> simp [set_get, NRow] <;> omega
    · rw [List.getElem?_set_ne hij] at hj
      have b1 := h2 j e hj k hk
      rw [← b1]
      iterate 10 rw [set_get, if_neg (by omega)]
  · rcases List.mem_or_eq_of_mem_set hd with hd | rfl
    · exact h.gen d hd
    · exact h0
theorem SlabN.turn (h : SlabN tc ts w b g l) {l' : List (Cel Nd)} (hc : CellsN tc w' g l') (hl : l'.length = l.length) (k : Mod (· = g) w w') : SlabN tc ts w' b g l' :=
  ⟨by rw [hl]; exact (k.block b h.blt (fun e => h.ne e.symm)).trans h.hb, hc, h.ne, by rw [hl]; exact h.pos, by rw [hl]; exact h.top⟩
end
end Go.Burg

namespace Go.Proofs.YtnngicopphiaaaaGreatDoor.S
set_option maxRecDepth 8000
open Go.ChangeShapes Go.WideShapes Go.ChangeAt Go.RowKit Go.Burg
theorem there_any {b g : Nat} {l : List (Cel Nd)} (w : World) (h : SlabN 124 106 w b g l) :
    Calls Tryz.prog 66 #[.pointer (some ⟨b, 0, none⟩)] w fun e w' => e = .returned (.bool true) ∧ Below w.heap.size w w' := by
  obtain ⟨c0, f0⟩ := h.head
  have hp := h.pos
  have ht := h.top
  go_enter Tryz.func66, Tryz.ntmps66
  go_wp2
  go_ret
  exact ⟨by simp; exact hp, Below.refl _ _⟩
theorem room_any (is : Bool) (k : Int) (c v p : ByteArray) (y z : Sl) (pl di : Bool) (gen : Int) (w : World) :
    Calls Tryz.prog 72 #[.agg #[.bool is, .int .i64 k, .string c, .string v, .string p, .slice y.a y.n y.c, .slice z.a z.n z.c, .bool pl, .bool di, .int .u32 gen]] w fun e w' => e = .returned (.bool (!is && decide (gen < 4294967295))) ∧ Below w.heap.size w w' := by
  cases is <;> by_cases hg : gen < 4294967295
  all_goals
    simp only [hg, decide_true, decide_false, Bool.not_true, Bool.not_false, Bool.and_true, Bool.and_false]
    go_enter Tryz.func72, Tryz.ntmps72
    go_wp2
    go_ret
    exact ⟨rfl, by (repeat (first | exact Below.refl _ _ | assumption | with_reducible refine Below.drew ?_ | with_reducible refine below_drewN ?_ | with_reducible refine Below.setCell ?_ (by first | (simp; done) | (simp; omega)) _ | with_reducible refine Below.alloc ?_ (by first | exact Nat.le_refl _ | (simp; done) | (simp; omega)) _))⟩
theorem index_any {g : Nat} {l : List (Cel Nd)} (r : Int) (w : World) (h : CellsN 124 w g l) (hn : l.length ≤ 4096) (hF : First l r) :
    Calls Tryz.prog 89 #[.slice (some ⟨g, 0, none⟩) l.length l.length, .func (.func 72) #[] #[]] w fun e w' => e = .returned (.int .i64 r) ∧ Below w.heap.size w w' := by
  have HF := hid hF
  clear hF
  have hgl := h.lt
  go_enter Tryz.func89, Tryz.ntmps89
  go_wp2_with fail
  go_loopw [8] (fun iv wr => ∃ k : Nat, k ≤ l.length ∧ iv = .int .i64 k ∧ (∀ j, j < k → ∀ d : Cel Nd, l[j]? = some d → d.room = false) ∧ Below w.heap.size w wr) (fun iv _ => l.length - (intOf iv).toNat)
  case atStart => exact ⟨0, Nat.zero_le _, rfl, fun _ h => absurd h (Nat.not_lt_zero _), Below.refl _ _⟩
  case round =>
    obtain ⟨k, hk, rfl, hp, hB⟩ := hrel
    have HP := hid hp
    have HB := hid hB
    clear hp
    by_cases hlt : k < l.length
    · obtain ⟨⟨c0, c1, c2, c3, c4, c5, c6, c7, c8, c9⟩, cf, g1, g2⟩ := (h.same (hB.block g hgl)).cell (List.getElem?_eq_getElem hlt)
      have hi := hid (List.getElem?_eq_getElem hlt)
      generalize l[k] = c at c0 c1 c2 c3 c4 c5 c6 c7 c8 c9 g1 g2 hi
      obtain ⟨is, ⟨kn, cd, vl, pt, ⟨ya, yn, yc⟩, ⟨za, zn, zc⟩, pl, di⟩, gen⟩ := c
      simp only at c0 c1 c2 c3 c4 c5 c6 c7 c8 c9 g1 g2
      clear hB
      have HR := hid (fun w => room_any is kn cd vl pt ⟨ya, yn, yc⟩ ⟨za, zn, zc⟩ pl di gen w)
      by_cases hr : (!is && decide (gen < 4294967295)) = true
      · have hrk : r = k := HF.out.at hi.out hr HP.out
        rw [hr] at HR
        clear hr
        go_wp2_with (go_at_call 72; refine (HR.out _).mono ?_; rintro e w2 ⟨rfl, hB2⟩; have HB2 := hid hB2; clear hB2)
        go_ret
        exact ⟨by simp [hrk], HB.out.trans (HB2.out.mono HB.out.size)⟩
      · rw [Bool.eq_false_iff.2 hr] at HR
        have hr' := hid hr
        clear hr
        go_wp2_with (go_at_call 72; refine (HR.out _).mono ?_; rintro e w2 ⟨rfl, hB2⟩; have HB2 := hid hB2; clear hB2)
        go_roundw
        case rel => exact ⟨k + 1, by omega, by go_num, fun j hj d hd => by
          rcases Nat.lt_succ_iff_lt_or_eq.1 hj with h | rfl
          · exact HP.out j h d hd
          · have := hi.out.symm.trans hd
            cases this
            exact Bool.eq_false_iff.2 hr'.out, HB.out.trans (HB2.out.mono HB.out.size)⟩
        case measure => simp [intOf]; omega
    · obtain rfl : k = l.length := by omega
      have hrk : r = -1 := HF.out.none HP.out
      go_wp2_with fail
      go_ret
      exact ⟨by simp [hrk], HB.out⟩
end Go.Proofs.YtnngicopphiaaaaGreatDoor.S

namespace Go.Proofs.YtnngicopphiaaaaGreatDoor.S
set_option maxRecDepth 8000
open Go.ChangeShapes Go.WideShapes Go.ChangeAt Go.RowKit Go.Burg
theorem take_no {b g : Nat} {l : List (Cel Nd)} (k0 : Int) (cd vl pt : ByteArray) (ya za : Option Addr) (yn yc zn zc : Nat) (pl di : Bool) (w : World) (h : SlabN 124 106 w b g l) (hF : First l (-1)) :
    Calls Tryz.prog 55 #[.pointer (some ⟨b, 0, none⟩), .agg #[.int .i64 k0, .string cd, .string vl, .string pt, .slice ya yn yc, .slice za zn zc, .bool pl, .bool di]] w fun e w' => e = .returned (.tuple #[.agg #[.int .i64 0, .int .u32 0], .int .i64 14]) ∧ Below w.heap.size w w' := by
  have hA := (h.alloc (.cells #[.int .i64 k0, .string cd, .string vl, .string pt, .slice ya yn yc, .slice za zn zc, .bool pl, .bool di] 61)).alloc (.cells #[.int .i64 0, .int .u32 0] 30)
  have hN := heap_new (w.alloc (.cells #[.int .i64 k0, .string cd, .string vl, .string pt, .slice ya yn yc, .slice za zn zc, .bool pl, .bool di] 61)) (.cells #[.int .i64 0, .int .u32 0] 30)
  have hX := blk_alloc (o' := (.cells #[.int .i64 0, .int .u32 0] 30)) (heap_new w (.cells #[.int .i64 k0, .string cd, .string vl, .string pt, .slice ya yn yc, .slice za zn zc, .bool pl, .bool di] 61))
  have hs1 : (w.alloc (.cells #[.int .i64 k0, .string cd, .string vl, .string pt, .slice ya yn yc, .slice za zn zc, .bool pl, .bool di] 61)).heap.size = w.heap.size + 1 := by simp
  rw [hs1] at hN
  clear hs1
  go_enter Tryz.func55, Tryz.ntmps55
  go_wp2_with fail
  refine (there_any _ hA).mono ?_
  rintro e w1 ⟨rfl, hw1⟩
  have h1 := hA.keep hw1
  have hN1 := blk_below hN hw1 (by simp)
  have hX1 := blk_below hX hw1 (by simp; omega)
  have HB1 : Hid (Below w.heap.size w w1) := hid ((((Below.refl _ _).alloc (Nat.le_refl _) _).alloc (by simp) _).trans (hw1.mono (by simp; omega)))
  clear hw1 hA hN hX
  obtain ⟨s0, sf⟩ := h1.head
  go_wp2_with fail
  refine (index_any _ _ h1.hc h1.top hF).mono ?_
  rintro e w2 ⟨rfl, hw2⟩
  have h2 := h1.keep hw2
  have hN2 := blk_below hN1 hw2 (lt_of_block hN1)
  have hX2 := blk_below hX1 hw2 (lt_of_block hX1)
  have hl2 := lt_of_block hN2
  have hl3 := lt_of_block hX2
  have HB2 : Hid (Below w.heap.size w w2) := hid (HB1.out.trans (hw2.mono HB1.out.size))
  clear hw2 h1 hN1 hX1 s0 sf HB1
  have n0 := cell_of hN2 0
  have n1 := cell_of hN2 1
  have nf := free_of hN2
  clear hX2
  go_wp2
  refine bodyPost_ret (v := .tuple #[.agg #[_, _], _]) (by simp [results, Tryz.results55, go_sem, n0, n1]) rfl ⟨rfl, ?_⟩
  exact (HB2.out.setCell (Nat.le_succ _) _).setCell (Nat.le_succ _) _
set_option maxHeartbeats 2000000 in
theorem take_yes {b g k : Nat} {l : List (Cel Nd)} {c : Cel Nd} (k0 : Int) (cd vl pt : ByteArray) (ya za : Option Addr) (yn yc zn zc : Nat) (pl di : Bool) (w : World) (h : SlabN 124 106 w b g l) (hF : First l (k : Int)) (hk : l[k]? = some c) (hr : c.room = true) :
    Calls Tryz.prog 55 #[.pointer (some ⟨b, 0, none⟩), .agg #[.int .i64 k0, .string cd, .string vl, .string pt, .slice ya yn yc, .slice za zn zc, .bool pl, .bool di]] w fun e w' => e = .returned (.tuple #[.agg #[.int .i64 k, .int .u32 (c.gen + 1)], .int .i64 0]) ∧ SlabN 124 106 w' b g (l.set k ⟨true, (⟨k0, cd, vl, pt, ⟨ya, yn, yc⟩, ⟨za, zn, zc⟩, pl, di⟩ : Nd), c.gen + 1⟩) ∧ Mod (· = g) w w' := by
  have hkl : k < l.length := (List.getElem?_eq_some_iff.1 hk).1
  have hgl := h.glt
  have hbl := h.blt
  have hng := h.ne
  have ht := h.top
  have hgen : c.gen < 4294967295 := by
    simp only [Cel.room, Bool.and_eq_true, decide_eq_true_eq] at hr
    exact hr.2
  have hgen0 : 0 ≤ c.gen := (h.hc.cell hk).2.2.1
  obtain ⟨is, ⟨kn, cd', vl', pt', ⟨ya', yn', yc'⟩, ⟨za', zn', zc'⟩, pl', di'⟩, gen⟩ := c
  simp only at hgen hgen0
  clear hr
  have HH := hid h
  have hA := (h.alloc (.cells #[.int .i64 k0, .string cd, .string vl, .string pt, .slice ya yn yc, .slice za zn zc, .bool pl, .bool di] 61)).alloc (.cells #[.int .i64 0, .int .u32 0] 30)
  have hN := heap_new (w.alloc (.cells #[.int .i64 k0, .string cd, .string vl, .string pt, .slice ya yn yc, .slice za zn zc, .bool pl, .bool di] 61)) (.cells #[.int .i64 0, .int .u32 0] 30)
  have hX := blk_alloc (o' := (.cells #[.int .i64 0, .int .u32 0] 30)) (heap_new w (.cells #[.int .i64 k0, .string cd, .string vl, .string pt, .slice ya yn yc, .slice za zn zc, .bool pl, .bool di] 61))
  have hs1 : (w.alloc (.cells #[.int .i64 k0, .string cd, .string vl, .string pt, .slice ya yn yc, .slice za zn zc, .bool pl, .bool di] 61)).heap.size = w.heap.size + 1 := by simp
  rw [hs1] at hN
  clear hs1
  go_enter Tryz.func55, Tryz.ntmps55
  go_wp2_with fail
  refine (there_any _ hA).mono ?_
  rintro e w1 ⟨rfl, hw1⟩
  have h1 := hA.keep hw1
  have hN1 := blk_below hN hw1 (by simp)
  have hX1 := blk_below hX hw1 (by simp; omega)
  have HB1 : Hid (Below w.heap.size w w1) := hid ((((Below.refl _ _).alloc (Nat.le_refl _) _).alloc (by simp) _).trans (hw1.mono (by simp; omega)))
  clear hw1 hA hN hX
  obtain ⟨s0, sf⟩ := h1.head
  go_wp2_with fail
  refine (index_any _ _ h1.hc h1.top hF).mono ?_
  rintro e w2 ⟨rfl, hw2⟩
  have h2 := h1.keep hw2
  have hN2 := blk_below hN1 hw2 (lt_of_block hN1)
  have hX2 := blk_below hX1 hw2 (lt_of_block hX1)
  have hl2 := lt_of_block hN2
  have hl3 := lt_of_block hX2
  have HB2 : Hid (Below w.heap.size w w2) := hid (HB1.out.trans (hw2.mono HB1.out.size))
  clear hw2 h1 hN1 hX1 s0 sf HB1
  go_wp2_with fail
  refine wp_region_seq 19 (fun w1 => Below (w2).heap.size (w2) w1) (by kernel_rfl) (by kernel_rfl) (by kernel_rfl) ⟨rfl, rfl, rfl, Nat.le_refl _, fun _ _ => rfl⟩ ?_
  dsimp only [List.take]
  iterate 19
    refine Seq.cons (a' := ?_) ?_ ?_ ?_
    rotate_left
    ·
      intro w1 hw1
      have h2 := h2.keep hw1
      obtain ⟨s0, sf⟩ := h2.head
      obtain ⟨⟨c0, c1, c2, c3, c4, c5, c6, c7, c8, c9⟩, cf, _, _⟩ := h2.hc.cell hk
      simp only at c9
      have hX3 := blk_below hX2 hw1 hl3
      have x0 := cell_of hX3 0
      have x1 := cell_of hX3 1
      have x2 := cell_of hX3 2
      have x3 := cell_of hX3 3
      have x4 := cell_of hX3 4
      have x5 := cell_of hX3 5
      have x6 := cell_of hX3 6
      have x7 := cell_of hX3 7
      clear c0 c1 c2 c3 c4 c5 c6 c7 c8 hX3
      go_wp2_with (fail)
      refine ⟨?_, by first | assumption | (simpa using below_chain hw1 hb hw1.size)⟩
      exact rfl
    · kernel_rfl
  refine SeqI.nil ?_
  intro _ w1 _ hw1
  dsimp only [List.drop]
  have h3 := h2.keep hw1
  have hN3 := blk_below hN2 hw1 hl2
  have HB3 : Hid (Below w.heap.size w w1) := hid (HB2.out.trans (hw1.mono HB2.out.size))
  clear hw1 h2 hN2 HB2 hX2
  obtain ⟨s0, sf⟩ := h3.head
  obtain ⟨⟨c0, c1, c2, c3, c4, c5, c6, c7, c8, c9⟩, cf, _, _⟩ := h3.hc.cell hk
  simp only at c0 c1 c2 c3 c4 c5 c6 c7 c8 c9
  have n0 := cell_of hN3 0
  have n1 := cell_of hN3 1
  have nf := free_of hN3
  have HP := hid (h3.hc.put hk ⟨true, (⟨k0, cd, vl, pt, ⟨ya, yn, yc⟩, ⟨za, zn, zc⟩, pl, di⟩ : Nd), gen + 1⟩ ⟨by simp only; omega, by simp only; omega⟩)
  go_wp2_with fail
  refine bodyPost_ret (v := .tuple #[.agg #[_, _], _]) (by simp [results, Tryz.results55, go_sem, n0, n1]) rfl ⟨rfl, ?_⟩
  have e : ∀ (W : World) (j : Nat) (v : Value), (W.setCell ⟨w.heap.size + 1, j, none⟩ v).heap[g]? = W.heap[g]? := fun W j v => Below.heap_setCell _ _ _ _ (by intro e; simp at e; omega)
  have hC := HP.out.same ((e _ 1 (.int .u32 (gen + 1))).trans (e _ 0 (.int .i64 k)))
  have hM : Mod (· = g) w _ := (Mod.setCell (S := (· = g)) (p := ⟨w.heap.size + 1, 1, none⟩) (Mod.setCell (S := (· = g)) (p := ⟨w.heap.size + 1, 0, none⟩) (Mod.setCell (S := (· = g)) (p := ⟨g, k * 10 + 9, none⟩) (Mod.setCell (S := (· = g)) (p := ⟨g, k * 10 + 8, none⟩) (Mod.setCell (S := (· = g)) (p := ⟨g, k * 10 + 7, none⟩) (Mod.setCell (S := (· = g)) (p := ⟨g, k * 10 + 6, none⟩) (Mod.setCell (S := (· = g)) (p := ⟨g, k * 10 + 5, none⟩) (Mod.setCell (S := (· = g)) (p := ⟨g, k * 10 + 4, none⟩) (Mod.setCell (S := (· = g)) (p := ⟨g, k * 10 + 3, none⟩) (Mod.setCell (S := (· = g)) (p := ⟨g, k * 10 + 2, none⟩) (Mod.setCell (S := (· = g)) (p := ⟨g, k * 10 + 1, none⟩) (Mod.setCell (S := (· = g)) (p := ⟨g, k * 10, none⟩) (Mod.ofBelow HB3.out) (.inl rfl) (.bool true)) (.inl rfl) (.int .i64 k0)) (.inl rfl) (.string cd)) (.inl rfl) (.string vl)) (.inl rfl) (.string pt)) (.inl rfl) (.slice ya yn yc)) (.inl rfl) (.slice za zn zc)) (.inl rfl) (.bool pl)) (.inl rfl) (.bool di)) (.inl rfl) (.int .u32 (gen + 1))) (.inr (Nat.le_succ _)) (.int .i64 k)) (.inr (Nat.le_succ _)) (.int .u32 (gen + 1)))
  exact ⟨HH.out.turn hC (by simp) hM, hM⟩
end Go.Proofs.YtnngicopphiaaaaGreatDoor.S

namespace Go.Proofs.YtnngicopphiaaaaGreatDoor.S
open Go.ChangeShapes Go.WideShapes Go.ChangeAt Go.RowKit Go.Burg
theorem madeCells_get {z : Array Value} {n j : Nat} (hz : z.size = 10) (hj : j < n) : (madeCells z n)[j]? = z[j % 10]? := by
  have : j % 10 < z.size := by omega
  rw [Array.getElem?_eq_getElem this, ← getElem!_pos z (j % 10) this]
  simp [madeCells, hj, hz]
set_option maxRecDepth 20000 in
theorem new_any (n : Nat) (w : World) (h1 : 1 ≤ n) (h2 : n ≤ 4096) :
    Calls Tryz.prog 21 #[.int .i64 n] w fun e w' => ∃ b g, e = .returned (.tuple #[.pointer (some ⟨b, 0, none⟩), .int .i64 0]) ∧ w.heap.size ≤ b ∧ w.heap.size ≤ g ∧ SlabN 124 106 w' b g (List.replicate n ⟨false, Nd.zero, 0⟩) ∧ Below w.heap.size w w' := by
  obtain ⟨i, hi, hz, hs, hby⟩ := info_parts (P := Tryz.prog) (e := 124) (z := .agg #[.bool false, .int .i64 0, .string ⟨#[]⟩, .string ⟨#[]⟩, .string ⟨#[]⟩, .slice none 0 0, .slice none 0 0, .bool false, .bool false, .int .u32 0]) (size := 10) (bytes := 128) (by kernel_rfl)
  have HI := hid hi
  have HZ := hid hz
  have HS := hid hs
  have HY := hid hby
  clear hi hz hs hby
  go_enter Tryz.func21, Tryz.ntmps21
  go_wp2_with (at_make; go_loud (refine wpList_make_full _ rfl _ _ 102 rfl w.heap.size 124 i _ 10 Tryz.underlying102 HI.out HZ.out HS.out _ _ _ _ n rfl rfl rfl rfl (by rw [HY.out]; omega) (by simp [maxLen]; omega) (Nat.le_refl _) ?_))
  intro w1 hown hgr
  go_wp2
  go_ret2
  have hB1 : Below w.heap.size w w1 := ⟨hgr.os, hgr.tape, hgr.output, hgr.size, fun k hk => hgr.block k hk (by simp)⟩
  have hcl := hown.cellAt
  have hlt := (hown.lt w.heap.size rfl).2
  have hc : CellsN 124 w1 w.heap.size (List.replicate n ⟨false, Nd.zero, 0⟩) := by
    refine ⟨?_, fun c hc => ?_⟩
    · rcases hown.2 with ⟨h, _⟩ | ⟨g', cap', cur, h, _, hg, _⟩
      · simp at h
      · simp only [Value.slice.injEq, Option.some.injEq, Addr.mk.injEq, and_true, true_and] at h
        obtain ⟨rfl, rfl⟩ := h
        refine ⟨cur, hg, fun j c hj o ho => ?_⟩
        have hjn : j < n := by have := (List.getElem?_eq_some_iff.1 hj).1; simpa using this
        have hcc : c = ⟨false, Nd.zero, 0⟩ := by
          have := List.mem_of_getElem? hj
          exact List.eq_of_mem_replicate this
        subst hcc
        rw [← cell_of hg, hcl (j * 10 + o) (by omega), ← Array.getElem?_toList.symm]
        have := madeCells_get (z := #[.bool false, .int .i64 0, .string ⟨#[]⟩, .string ⟨#[]⟩, .string ⟨#[]⟩, .slice none 0 0, .slice none 0 0, .bool false, .bool false, .int .u32 0]) (n := n * 10) (j := j * 10 + o) rfl (by omega)
        rw [this, show (j * 10 + o) % 10 = o by omega]
        exact List.getElem?_toArray
    · have := List.eq_of_mem_replicate hc
      subst this
      exact ⟨by decide, by decide⟩
  refine ⟨w1.heap.size, w.heap.size, rfl, hgr.size, Nat.le_refl _, ⟨?_, hc.same (Below.heap_alloc _ _ _ hlt), by omega, by simpa using h1, by simpa using h2⟩, hB1.alloc hB1.size _⟩
  simpa using heap_new w1 _
end Go.Proofs.YtnngicopphiaaaaGreatDoor.S

namespace Go.Burg
open Go
section
variable {x : Int} (h0 : 0 ≤ x) (h1 : x ≤ 18446744073709551615)
include h0 h1
theorem bit_and1 : bits .and .u64 x 1 = x % 2 := by
  rw [u64_and x 1 h0 (by omega) (by omega) (by omega)]
  have : x.toNat &&& (1 : Int).toNat = x.toNat % 2 := nat_mask1 _
  rw [this]
  omega
theorem bit_and2 : bits .and .u64 x 2 = x / 2 % 2 * 2 := by
  rw [u64_and x 2 h0 (by omega) (by omega) (by omega)]
  have : x.toNat &&& (2 : Int).toNat = x.toNat / 2 % 2 * 2 := nat_bit 1 _
  rw [this]
  omega
theorem bit_or1 (h : x % 2 = 0) : bits .or .u64 x 1 = x + 1 := by
  rw [u64_or x 1 h0 (by omega) (by omega) (by omega)]
  have : x.toNat ||| (1 : Int).toNat = x.toNat + 1 := nat_join 1 _ 1 (by omega) (by omega)
  rw [this]
  omega
theorem bit_not1 : bits .andNot .u64 x 1 = x - x % 2 := by
  rw [u64_andNot x 1 h0 (by omega) (by omega) (by omega)]
  have h2 : x.toNat &&& (18446744073709551615 - (1 : Int).toNat) = 2 * (x.toNat / 2) := by
    have e1 : (x.toNat &&& 18446744073709551614) / 2 = x.toNat / 2 := by
      rw [Nat.and_div_two]
      have : x.toNat / 2 &&& 18446744073709551614 / 2 = x.toNat / 2 % 2 ^ 63 := Nat.and_two_pow_sub_one_eq_mod _ 63
      rw [this]
      omega
    have e2 : (x.toNat &&& 18446744073709551614) % 2 = 0 := by
      have := Nat.and_mod_two_pow (a := x.toNat) (b := 18446744073709551614) (n := 1)
      simpa using this
    show x.toNat &&& 18446744073709551614 = _
    omega
  rw [h2]
  omega
end
end Go.Burg

namespace Go.Burg.Lk
abbrev Wd := { x : Int // 0 ≤ x ∧ x ≤ 18446744073709551615 }
def Wd.dead (x : Wd) : Bool := decide (x.1 / 2 % 2 = 1)
def Wd.locked (x : Wd) : Bool := decide (x.1 % 2 = 1)
def Wd.free (x : Wd) : Bool := !x.locked && !x.dead
def Wd.held (x : Wd) : Bool := x.locked && !x.dead
def Wd.of (x : Int) : Wd := ⟨IntKind.u64.wrap x, by
  have : IntKind.u64.wrap x = x % 18446744073709551616 := rfl
  rw [this]; omega⟩
theorem Wd.of_in (x : Int) (h0 : 0 ≤ x) (h1 : x ≤ 18446744073709551615) : (Wd.of x).1 = x := by
  have : IntKind.u64.wrap x = x % 18446744073709551616 := rfl
  show IntKind.u64.wrap x = x
  rw [this]; omega
theorem Wd.val (x : Wd) : Wd.of x.1 = x := Subtype.ext (Wd.of_in _ x.2.1 x.2.2)
theorem Wd.free_iff (x : Wd) : x.free = true ↔ x.1 % 4 = 0 := by
  simp only [Wd.free, Wd.locked, Wd.dead, Bool.and_eq_true, Bool.not_eq_true', decide_eq_false_iff_not]
  omega
theorem Wd.held_iff (x : Wd) : x.held = true ↔ x.1 % 4 = 1 := by
  simp only [Wd.held, Wd.locked, Wd.dead, Bool.and_eq_true, Bool.not_eq_true', decide_eq_false_iff_not, decide_eq_true_eq]
  omega
def Wd.lock (x : Wd) : Wd × Bool := if x.free then (Wd.of (x.1 + 1), true) else (x, false)
def Wd.drop (x : Wd) : Wd × Bool := if x.held then (Wd.of (x.1 - 1), true) else (x, false)
def Wd.done (x : Wd) : Wd × Bool := if x.held then (Wd.of (x.1 - 1 + 4), true) else (x, false)
def Wd.kill (x : Wd) : Wd × Bool := if x.held then (Wd.of ((Wd.of (x.1 - 1 + 4)).1 + 2), true) else (x, false)
def Wd.turn (x : Wd) (how : Nat) : Wd × Bool := match how with | 0 => x.drop | 1 => x.done | _ => x.kill
end Go.Burg.Lk
namespace Go.Proofs.YtnngicopphiaaaaGreatDoor.K
set_option maxRecDepth 8000
open Go.ChangeShapes Go.WideShapes Go.ChangeAt Go.RowKit Go.Burg
open Go.Burg.Lk
theorem blk_below {w w1 : World} {B b : Nat} {o : Obj} (h : w.heap[b]? = some o) (hb : Below B w w1) (hB : b < B) : w1.heap[b]? = some o := (hb.block b hB).trans h
theorem blk_alloc {w : World} {b : Nat} {o o' : Obj} (h : w.heap[b]? = some o) : (w.alloc o').heap[b]? = some o := (Below.heap_alloc _ _ _ (lt_of_block h)).trans h
theorem below_drewN {B n : Nat} {a b : World} (h : Below B a b) : Below B a (b.drewN n) := ⟨h.os, h.tape, h.output, h.size, h.block⟩
theorem mod_drewN {S : Nat → Prop} {n : Nat} {a b : World} (h : Mod S a b) : Mod S a (b.drewN n) := ⟨h.os, h.tape, h.output, h.size, h.block⟩
def wV (x : Wd) : Value := .int .u64 x.1
theorem fldw (x : Value) (w : World) : Sem.run Tryz.prog (Instr.field 153 (.agg #[x]) 0) w = .ok (.agg #[x]) w := rfl
theorem of_any (x : Int) (w : World) : Calls Tryz.prog 90 #[.int .u64 x] w fun e w' => e = .returned (.agg #[.int .u64 x]) ∧ Below w.heap.size w w' := by
  go_enter Tryz.func90, Tryz.ntmps90
  go_wp2
  refine bodyPost_ret (v := .agg #[_]) (by simp [results, Tryz.results90, go_sem]) rfl ⟨rfl, ?_⟩
  (repeat (first | exact Below.refl _ _ | assumption | with_reducible refine Below.drew ?_ | with_reducible refine below_drewN ?_ | with_reducible refine Below.setCell ?_ (by first | (simp; done) | (simp; omega)) _ | with_reducible refine Below.alloc ?_ (by first | exact Nat.le_refl _ | (simp; done) | (simp; omega)) _))
theorem dead_any (x : Wd) (w : World) : Calls Tryz.prog 91 #[.agg #[.int .u64 x.1]] w fun e w' => e = .returned (.bool x.dead) ∧ Below w.heap.size w w' := by
  have hb := bit_and2 x.2.1 x.2.2
  have hc : (x.1 / 2 % 2 * 2 != 0) = x.dead := by unfold Wd.dead; rw [Bool.eq_iff_iff]; simp; omega
  go_enter Tryz.func91, Tryz.ntmps91
  go_wp2
  go_ret
  refine ⟨?_, ?_⟩
  · rfl
  · (repeat (first | exact Below.refl _ _ | assumption | with_reducible refine Below.drew ?_ | with_reducible refine below_drewN ?_ | with_reducible refine Below.setCell ?_ (by first | (simp; done) | (simp; omega)) _ | with_reducible refine Below.alloc ?_ (by first | exact Nat.le_refl _ | (simp; done) | (simp; omega)) _))
theorem locked_any (x : Wd) (w : World) : Calls Tryz.prog 92 #[.agg #[.int .u64 x.1]] w fun e w' => e = .returned (.bool x.locked) ∧ Below w.heap.size w w' := by
  have hb := bit_and1 x.2.1 x.2.2
  have hc : (x.1 % 2 != 0) = x.locked := by unfold Wd.locked; rw [Bool.eq_iff_iff]; simp; omega
  go_enter Tryz.func92, Tryz.ntmps92
  go_wp2
  go_ret
  refine ⟨?_, ?_⟩
  · rfl
  · (repeat (first | exact Below.refl _ _ | assumption | with_reducible refine Below.drew ?_ | with_reducible refine below_drewN ?_ | with_reducible refine Below.setCell ?_ (by first | (simp; done) | (simp; omega)) _ | with_reducible refine Below.alloc ?_ (by first | exact Nat.le_refl _ | (simp; done) | (simp; omega)) _))
theorem Dead_any (x : Wd) (w : World) : Calls Tryz.prog 58 #[.int .u64 x.1] w fun e w' => e = .returned (.bool x.dead) ∧ Below w.heap.size w w' := by
  go_enter Tryz.func58, Tryz.ntmps58
  go_wp2_with (go_at_call 90; refine (of_any _ _).mono ?_; rintro e w1 ⟨rfl, hb1⟩)
  simp only [fldw]
  go_wp2_with (go_at_call 91; refine (dead_any _ _).mono ?_; rintro e w2 ⟨rfl, hb2⟩)
  go_ret
  exact ⟨rfl, below_chain hb1 hb2 hb1.size⟩
theorem Locked_any (x : Wd) (w : World) : Calls Tryz.prog 59 #[.int .u64 x.1] w fun e w' => e = .returned (.bool x.locked) ∧ Below w.heap.size w w' := by
  go_enter Tryz.func59, Tryz.ntmps59
  go_wp2_with (go_at_call 90; refine (of_any _ _).mono ?_; rintro e w1 ⟨rfl, hb1⟩)
  simp only [fldw]
  go_wp2_with (go_at_call 92; refine (locked_any _ _).mono ?_; rintro e w2 ⟨rfl, hb2⟩)
  go_ret
  exact ⟨rfl, below_chain hb1 hb2 hb1.size⟩
theorem free_any (x : Wd) (w : World) : Calls Tryz.prog 95 #[.agg #[.int .u64 x.1]] w fun e w' => e = .returned (.bool x.free) ∧ Below w.heap.size w w' := by
  cases hl : x.locked <;> cases hd : x.dead <;> simp only [Wd.free, hl, hd]
  all_goals
    have HL := hid (fun w => locked_any x w)
    have HD := hid (fun w => dead_any x w)
    rw [hl] at HL
    rw [hd] at HD
    have hA := heap_new w (.cells #[.int .u64 x.1] 151)
    go_enter Tryz.func95, Tryz.ntmps95
    go_wp2_with (first | (go_at_call 92; refine (HL.out _).mono ?_; rintro e w1 ⟨rfl, hb1⟩; have hA1 := blk_below hA hb1 (by simp); have cA1 := cell_of hA1 0) | (go_at_call 91; refine (HD.out _).mono ?_; rintro e w2 ⟨rfl, hb2⟩))
    go_ret
    refine ⟨rfl, ?_⟩
    first | exact below_chain (below_chain ((Below.refl _ _).alloc (Nat.le_refl _) _) hb1 (by simp)) hb2 (Nat.le_trans (by simp) hb1.size) | exact below_chain ((Below.refl _ _).alloc (Nat.le_refl _) _) hb1 (by simp)
end Go.Proofs.YtnngicopphiaaaaGreatDoor.K
