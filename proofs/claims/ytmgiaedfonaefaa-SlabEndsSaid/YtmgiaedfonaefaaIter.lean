/- The slab's All: the iterator goes over a clone of the cells. -/
import Derived.RangeFuncNested
import Derived.RangeFuncBound
import Derived.RangeFuncCalls
import Derived.RangeFuncLeaves
import Derived.Shelf.Abstract
import Derived.Shelf.RegionOpen
import Derived.WalkKit
import Derived.OwnWalkIn
import Derived.TacticsInMore
import Derived.LoopNIn
import Derived.LoopIn
import Derived.Test.YtmgiaedfonaefaaSlabCopy
namespace Go.Proofs.Ytmgiaedfonaefaa.C
open Go.ChangeShapes Go.WideShapes Go.ChangeAt Go.RowKit Go.Burg Go.Shelf
attribute [local go_sem] Oper.semAt_some

/-- A live place: its number, its uses, its value. -/
abbrev Lv := Nat × Int × Int
def lvOf (l : List (Cel Int)) (i : Nat) : Option Lv := (l[i]?).bind fun c => if c.is then some (i, c.gen, c.x) else none
/-- The live ones among the first k. -/
def ups (l : List (Cel Int)) (k : Nat) : List Lv := (List.range k).filterMap (lvOf l)
theorem ups_zero (l : List (Cel Int)) : ups l 0 = [] := rfl
theorem ups_yes {l : List (Cel Int)} {k : Nat} {c : Cel Int} (h : l[k]? = some c) (hc : c.is = true) : ups l (k + 1) = ups l k ++ [(k, c.gen, c.x)] := by
  unfold ups
  rw [List.range_succ, List.filterMap_append]
  simp [lvOf, h, hc]
theorem ups_no {l : List (Cel Int)} {k : Nat} {c : Cel Int} (h : l[k]? = some c) (hc : c.is = false) : ups l (k + 1) = ups l k := by
  unfold ups
  rw [List.range_succ, List.filterMap_append]
  simp [lvOf, h, hc]
theorem ups_len (l : List (Cel Int)) (k : Nat) : (ups l k).length ≤ k := by
  have := List.length_filterMap_le (lvOf l) (List.range k)
  simpa [ups] using this
theorem ups_pre (l : List (Cel Int)) {j k : Nat} (h : j ≤ k) : ups l j <+: ups l k := by
  obtain ⟨d, rfl⟩ := Nat.le.dest h
  unfold ups
  rw [show List.range (j + d) = List.range j ++ (List.range d).map (j + ·) from List.range_add, List.filterMap_append]
  exact List.prefix_append _ _
def lives (l : List (Cel Int)) : List Lv := ups l l.length

def encs (x : Lv) : Array Value := #[.agg #[.int .i64 (x.1 : Int), .int .u32 x.2.1], .int .i64 x.2.2]

/-- What a round that goes on keeps: the cells laid since. -/
def KpC (n₀ : Nat) (A B : World) : Prop := A.heap.size ≤ B.heap.size ∧ ∀ (i : Nat) (o : Obj), n₀ ≤ i → A.heap[i]? = some o → o.isCells = true → B.heap[i]? = some o
theorem KpC.refl (n₀ : Nat) (A : World) : KpC n₀ A A := ⟨Nat.le_refl _, fun _ _ _ h _ => h⟩
theorem KpC.trans {n₀ : Nat} {A B C : World} (h : KpC n₀ A B) (k : KpC n₀ B C) : KpC n₀ A C := ⟨Nat.le_trans h.1 k.1, fun i o hi ho hc => k.2 i o hi (h.2 i o hi ho hc) hc⟩
theorem KpC.below {n₀ : Nat} {A B : World} (h : Below A.heap.size A B) : KpC n₀ A B := ⟨h.size, fun i _ _ ho _ => (h.block i (lt_of_block ho)).trans ho⟩
theorem KpC.mod {n₀ : Nat} {S : Nat → Prop} {A B : World} (h : Mod S A B) (hS : ∀ i, n₀ ≤ i → ¬ S i) : KpC n₀ A B := ⟨h.size, fun i _ hi ho _ => (h.block i (lt_of_block ho) (hS i hi)).trans ho⟩
theorem KpC.put {n₀ : Nat} (W : World) (l : Nat) (o o' : Obj) (h : W.heap[l]? = some o) (ho : o.isCells = false) : KpC n₀ W (W.putObj l o') :=
  ⟨by simp, fun i o2 _ hi hc => by
    by_cases e : i = l
    · subst e
      rw [h] at hi
      cases hi
      rw [ho] at hc
      cases hc
    · exact (World.putObj_heap_other e).trans hi⟩

theorem abides_below {β : Type} {B : Nat} {J : β → World → Prop} (hJ : AbidesFrom B J) {s : β} {A C : World} (h : J s A) (hb : Below A.heap.size A C) : J s C :=
  hJ s A C none h ⟨hb.os, hb.tape, hb.output, hb.size, fun k hk _ => hb.block k hk⟩ (fun r e => by cases e)

theorem all_any {b : Nat} (w : World) :
    Calls Try.prog 20 #[.pointer (some ⟨b, 0, none⟩)] w fun e w' => e = .returned (.func (.func 42) #[] #[.pointer (some ⟨w.heap.size, 0, none⟩)]) ∧ w' = w.alloc (.cells #[.pointer (some ⟨b, 0, none⟩)] 23) := by
  have hmf : ∀ (fn : Fn) (first cap : Array Value) (w : World), (Instr.makeFunc fn first cap).run Try.prog w = .ok (.func fn first cap) w := fun _ _ _ _ => rfl
  go_enter Try.func20, Try.ntmps20
  go_wp2_with fail
  go_ret
  exact ⟨rfl, rfl⟩

set_option maxRecDepth 100000 in
set_option maxHeartbeats 4000000 in
theorem all_stops (n B b g cp : Nat) (l : List (Cel Int)) (w0 : World) (hB : w0.heap[B]? = some (.cells #[.pointer (some ⟨b, 0, none⟩)] 23)) (hS : SlabC (fun x : Int => .int .i64 x) 69 66 w0 b g cp l) :
    SeqStopsK Fence.wide n Try.prog 42 #[.pointer (some ⟨B, 0, none⟩)] encs (KpC w0.heap.size) (fun xs => xs = lives l) (fun pre => pre <+: lives l) l.length w0 := by
  intro L J Jx W hW hJ hJx hY h0
  have hlB := lt_of_block hB
  have hsz := hW.size
  have hS1 := hS.keep hW
  have b0 := cell_of (blk_below hB hW hlB) 0
  have hp := hS.pos
  have ht := hS.top
  have HTH := hid (fun (w1 : World) (h : SlabC (fun x : Int => .int .i64 x) 69 66 w1 b g cp l) => there_any w1 h)
  have HY := hid hY
  have HW := hid hW
  clear hY hW
  refine callsIn_of_wp Try.func42 rfl trivial ?_ rfl
  simp only [Try.ntmps42, List.size_toArray, List.length_cons, List.length_nil, Nat.reduceAdd, Nat.reduceSub, Array.replicate_succ, Array.replicate_zero, List.push_toArray, List.append_toArray, List.nil_append, List.cons_append]
  gi_wp2_with fail
  refine ⟨trivial, fun e => (by cases e), ?_⟩
  refine ((callsIn_wide (n := n - 1)).2 (HTH.out _ hS1)).mono ?_
  rintro e w1 ⟨rfl, hw1⟩
  have hJ1 := abides_below hJ h0 hw1
  have hS2 := hS1.keep hw1
  have b1 := cell_of (blk_below (blk_below hB HW.out hlB) hw1 (by omega)) 0
  obtain ⟨s0, sf⟩ := hS2.head
  have HCL := hid (clone_any (cp := cp) w1 hS2.hc hp ht)
  have hsz1 := hw1.size
  clear h0 hS1 b0 hw1 HTH
  gi_wp2_with fail
  refine ⟨trivial, fun e => (by cases e), ?_⟩
  refine ((callsIn_wide (n := n - 1)).2 HCL.out).mono ?_
  rintro e w2 ⟨c0, cap, rfl, hc0, hcap, hC, hw2⟩
  have hJ2 := abides_below hJ hJ1 hw2
  have hn0 : w0.heap.size ≤ c0 := by omega
  clear hJ1 hS2 b1 s0 sf HCL
  gi_wp2_with fail
  gi_loopw [15] (fun iv wr => ∃ k : Nat, k ≤ l.length ∧ iv = .int .i64 k ∧ J (ups l k) wr ∧ CellsAt (fun x : Int => .int .i64 x) 69 wr c0 l) (fun iv _ => l.length - (intOf iv).toNat)
  case atStart => exact ⟨0, Nat.zero_le _, rfl, hJ2, hC⟩
  case round =>
    clear hJ2 hC hw2
    obtain ⟨k, hk, rfl, hJs, hC⟩ := hrel
    by_cases hlt : k < l.length
    · have hi : l[k]? = some l[k] := List.getElem?_eq_getElem hlt
      obtain ⟨c0', c1', c2', cf', _, _⟩ := hC.cell hi
      have HI := hid hi
      have HC := hid hC
      generalize l[k] = c at hi HI c0' c1' c2'
      obtain ⟨is, x, gn⟩ := c
      simp only at c0' c1' c2'
      have HJA := hid (abides_below hJ hJs ((Below.refl _ _).alloc (Nat.le_refl _) (.cells #[.bool is, .int .i64 x, .int .u32 gn] 69)))
      have HCA := hid (hC.same (w' := wr.alloc (.cells #[.bool is, .int .i64 x, .int .u32 gn] 69)) (Below.heap_alloc _ _ _ hC.lt))
      clear hi hC hJs
      cases is
      · have HU := hid (ups_no HI.out rfl)
        clear HI
        gi_wp2_with fail
        refine ⟨fun _ h => (by cases h), ?_⟩
        gi_wp2_with fail
        go_roundw
        case rel => exact ⟨k + 1, by omega, by go_num, by rw [HU.out]; exact HJA.out, HCA.out⟩
        case measure => simp [intOf]; omega
      · have HU := hid (ups_yes HI.out rfl)
        clear HI
        obtain ⟨fn, tmps, assign, body, hy, hR⟩ := HY.out _ (k, gn, x) _ HJA.out (Nat.lt_of_le_of_lt (ups_len l k) hlt)
        unfold encs at hy
        dsimp only at hy
        have HRR := hid hR
        clear hR
        gi_wp2_with fail
        refine ⟨fun e => (by cases e), ?_⟩
        refine HRR.out.mono ?_
        rintro e W3 (⟨rfl, hJ3, hk3⟩ | ⟨rfl, hJx3⟩)
        · have HJ3 := hid hJ3
          have HC3 : Hid (CellsAt (fun x : Int => .int .i64 x) 69 W3 c0 l) := hid (by
            obtain ⟨⟨cs, h1, h2⟩, h3⟩ := HCA.out
            exact ⟨⟨cs, hk3.2 c0 _ hn0 h1 rfl, h2⟩, h3⟩)
          clear hJ3 hk3 HRR HCA HJA
          gi_wp2_with fail
          go_roundw
          case rel => exact ⟨k + 1, by omega, by go_num, by rw [HU.out]; exact HJ3.out, HC3.out⟩
          case measure => simp [intOf]; omega
        · have HJ3 := hid hJx3
          clear hJx3 HRR HCA HJA
          gi_wp2_with fail
          refine bodyPost_ret (results_none rfl _ _ _) rfl ?_
          exact ⟨⟨_, rfl⟩, .inr ⟨_, by rw [← HU.out]; exact ups_pre l (by omega), HJ3.out⟩⟩
    · obtain rfl : k = l.length := by omega
      clear hlt HY
      gi_wp2_with fail
      go_end0
      exact ⟨⟨_, rfl⟩, .inl ⟨_, rfl, hJs⟩⟩
end Go.Proofs.Ytmgiaedfonaefaa.C
