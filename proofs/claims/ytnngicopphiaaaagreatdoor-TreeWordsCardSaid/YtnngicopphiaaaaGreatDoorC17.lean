/- Part 17 of 51 of a proof: lemmas on the functions that it reaches. -/
import Derived.Test.YtnngicopphiaaaaGreatDoorC14
import Derived.Test.YtnngicopphiaaaaGreatDoorC16
namespace Go.Proofs.YtnngicopphiaaaaGreatDoor.O
set_option maxRecDepth 8000
open Go Go.ChangeShapes Go.WideShapes Go.ChangeAt Go.RowKit Go.Burg Go.Shelf
attribute [local go_sem] Oper.semAt_some
section
variable {w w' : World} {k k' : Nat} {pt : ByteArray} {ya za : Option Addr} {yn yc zn zc : Nat} {L : List Kd}
set_option maxRecDepth 100000 in
set_option maxHeartbeats 8000000 in
theorem of_many (x gr gu r : Nat) (hK : ManyK 219 30 4 w x gr gu r L) :
    Calls Tryz.prog 84 #[(.agg #[.int .i64 k, .string ⟨#[]⟩, .string ⟨#[]⟩, .string pt, .slice ya yn yc, .slice za zn zc]), .iface 198 (.pointer (some ⟨x, 0, none⟩)), .int .i64 k'] w fun e w' => ∃ ya' yc' za' zc', e = .returned (.agg #[.int .i64 k', .string ⟨#[]⟩, .string ⟨#[]⟩, .string pt, .slice ya' L.length yc', .slice za' L.length zc']) ∧
      w'.ownsRow 0 5 1 (.slice ya' L.length yc') L.length (bytesL L) ∧ w'.ownsRow 0 30 2 (.slice za' L.length zc') L.length (kidsL L) ∧ Below w.heap.size w w' := by
  have hmt : ∀ (w : World) (b : Nat), (method 369 198 (.pointer (some ⟨b, 0, none⟩)) "All").run Tryz.prog w = .ok (181, .pointer (some ⟨b, 0, none⟩)) w := fun w b => by kernel_rfl
  have hmf : ∀ (fn : Fn) (first cap : Array Value) (w : World), (Instr.makeFunc fn first cap).run Tryz.prog w = .ok (.func fn first cap) w := fun _ _ _ _ => rfl
  refine (callsIn_wide (n := 8)).1 ?_
  refine callsIn_of_wp_marks Tryz.func84 rfl trivial ?_ rfl
  refine wpIn_wide.2 ?_
  simp only [Tryz.ntmps84, List.size_toArray, List.length_cons, List.length_nil, Nat.reduceAdd, Nat.reduceSub, Array.replicate_succ, Array.replicate_zero, List.push_toArray, List.append_toArray, List.nil_append, List.cons_append]
  go_wp2_with fail
  refine (M.mAll_at _).mono ?_
  rintro e w1 ⟨rfl, rfl⟩
  have hs1 : (w.alloc (.cells #[.int .i64 k, .string ⟨#[]⟩, .string ⟨#[]⟩, .string pt, .slice ya yn yc, .slice za zn zc] 136 (0, 0))).heap.size = w.heap.size + 1 := by simp
  have hs2 : ((w.alloc (.cells #[.int .i64 k, .string ⟨#[]⟩, .string ⟨#[]⟩, .string pt, .slice ya yn yc, .slice za zn zc] 136 (0, 0))).alloc (.cells #[.int .i64 0, .string ⟨#[]⟩, .string ⟨#[]⟩, .string ⟨#[]⟩, .slice none 0 0, .slice none 0 0] 53 (0, 0))).heap.size = w.heap.size + 1 + 1 := by simp
  have hs3 : (((w.alloc (.cells #[.int .i64 k, .string ⟨#[]⟩, .string ⟨#[]⟩, .string pt, .slice ya yn yc, .slice za zn zc] 136 (0, 0))).alloc (.cells #[.int .i64 0, .string ⟨#[]⟩, .string ⟨#[]⟩, .string ⟨#[]⟩, .slice none 0 0, .slice none 0 0] 53 (0, 0))).alloc (.cells #[.int .i64 k', .string ⟨#[]⟩, .string ⟨#[]⟩, .string pt, .slice none 0 0, .slice none 0 0] 53 (0, 0))).heap.size = w.heap.size + 1 + 1 + 1 := by simp
  have hs4 : ((((w.alloc (.cells #[.int .i64 k, .string ⟨#[]⟩, .string ⟨#[]⟩, .string pt, .slice ya yn yc, .slice za zn zc] 136 (0, 0))).alloc (.cells #[.int .i64 0, .string ⟨#[]⟩, .string ⟨#[]⟩, .string ⟨#[]⟩, .slice none 0 0, .slice none 0 0] 53 (0, 0))).alloc (.cells #[.int .i64 k', .string ⟨#[]⟩, .string ⟨#[]⟩, .string pt, .slice none 0 0, .slice none 0 0] 53 (0, 0))).alloc (.cells #[.pointer (some ⟨x, 0, none⟩)] 198 (0, 0))).heap.size = w.heap.size + 1 + 1 + 1 + 1 := by simp
  have b6 := blk_alloc2 (o' := (.cells #[.pointer (some ⟨x, 0, none⟩)] 198 (0, 0))) (blk_alloc2 (o' := (.cells #[.int .i64 k', .string ⟨#[]⟩, .string ⟨#[]⟩, .string pt, .slice none 0 0, .slice none 0 0] 53 (0, 0))) (heap_new (w.alloc (.cells #[.int .i64 k, .string ⟨#[]⟩, .string ⟨#[]⟩, .string pt, .slice ya yn yc, .slice za zn zc] 136 (0, 0))) (.cells #[.int .i64 0, .string ⟨#[]⟩, .string ⟨#[]⟩, .string ⟨#[]⟩, .slice none 0 0, .slice none 0 0] 53 (0, 0))))
  have b7 := blk_alloc2 (o' := (.cells #[.pointer (some ⟨x, 0, none⟩)] 198 (0, 0))) (heap_new ((w.alloc (.cells #[.int .i64 k, .string ⟨#[]⟩, .string ⟨#[]⟩, .string pt, .slice ya yn yc, .slice za zn zc] 136 (0, 0))).alloc (.cells #[.int .i64 0, .string ⟨#[]⟩, .string ⟨#[]⟩, .string ⟨#[]⟩, .slice none 0 0, .slice none 0 0] 53 (0, 0))) (.cells #[.int .i64 k', .string ⟨#[]⟩, .string ⟨#[]⟩, .string pt, .slice none 0 0, .slice none 0 0] 53 (0, 0)))
  have b8 := heap_new (((w.alloc (.cells #[.int .i64 k, .string ⟨#[]⟩, .string ⟨#[]⟩, .string pt, .slice ya yn yc, .slice za zn zc] 136 (0, 0))).alloc (.cells #[.int .i64 0, .string ⟨#[]⟩, .string ⟨#[]⟩, .string ⟨#[]⟩, .slice none 0 0, .slice none 0 0] 53 (0, 0))).alloc (.cells #[.int .i64 k', .string ⟨#[]⟩, .string ⟨#[]⟩, .string pt, .slice none 0 0, .slice none 0 0] 53 (0, 0))) (.cells #[.pointer (some ⟨x, 0, none⟩)] 198 (0, 0))
  rw [hs1] at b6
  rw [hs2] at b7
  rw [hs3] at b8
  have hB : Below w.heap.size w ((((w.alloc (.cells #[.int .i64 k, .string ⟨#[]⟩, .string ⟨#[]⟩, .string pt, .slice ya yn yc, .slice za zn zc] 136 (0, 0))).alloc (.cells #[.int .i64 0, .string ⟨#[]⟩, .string ⟨#[]⟩, .string ⟨#[]⟩, .slice none 0 0, .slice none 0 0] 53 (0, 0))).alloc (.cells #[.int .i64 k', .string ⟨#[]⟩, .string ⟨#[]⟩, .string pt, .slice none 0 0, .slice none 0 0] 53 (0, 0))).alloc (.cells #[.pointer (some ⟨x, 0, none⟩)] 198 (0, 0))) := ((((Below.refl _ _).alloc (Nat.le_refl _) _).alloc (by simp) _).alloc (by simp; omega) _).alloc (by simp; omega) _
  have hK1 : ManyK 219 30 4 ((((w.alloc (.cells #[.int .i64 k, .string ⟨#[]⟩, .string ⟨#[]⟩, .string pt, .slice ya yn yc, .slice za zn zc] 136 (0, 0))).alloc (.cells #[.int .i64 0, .string ⟨#[]⟩, .string ⟨#[]⟩, .string ⟨#[]⟩, .slice none 0 0, .slice none 0 0] 53 (0, 0))).alloc (.cells #[.int .i64 k', .string ⟨#[]⟩, .string ⟨#[]⟩, .string pt, .slice none 0 0, .slice none 0 0] 53 (0, 0))).alloc (.cells #[.pointer (some ⟨x, 0, none⟩)] 198 (0, 0))) x gr gu r L := ⟨by obtain ⟨M, h1, h2⟩ := hK.m; exact ⟨M, h1.keep hB, h2⟩⟩
  rw [hs3]
  go_wp2_with fail
  generalize hWl : ((((w.alloc (.cells #[.int .i64 k, .string ⟨#[]⟩, .string ⟨#[]⟩, .string pt, .slice ya yn yc, .slice za zn zc] 136 (0, 0))).alloc (.cells #[.int .i64 0, .string ⟨#[]⟩, .string ⟨#[]⟩, .string ⟨#[]⟩, .slice none 0 0, .slice none 0 0] 53 (0, 0))).alloc (.cells #[.int .i64 k', .string ⟨#[]⟩, .string ⟨#[]⟩, .string pt, .slice none 0 0, .slice none 0 0] 53 (0, 0))).alloc (.cells #[.pointer (some ⟨x, 0, none⟩)] 198 (0, 0))) = Wl at *
  generalize hu : w.heap.size = u at *
  have HB := hid hB
  have H6 := hid b6
  have H7 := hid b7
  have H8 := hid b8
  have HK := hid hK1
  have HU := hid hu
  clear hB b6 b7 b8 hK1 hK hWl hs1 hs2 hs3
  have hI0 : OwnFrom Wl.heap.size (fun (pre : List Kd) W => (∃ yv zv, W.heap[u + 1 + 1]? = some (.cells #[.int .i64 k', .string ⟨#[]⟩, .string ⟨#[]⟩, .string pt, yv, zv] 53 (0, 0)) ∧ W.ownsRow (u + 1 + 1 + 1 + 1) 5 1 yv pre.length (bytesL pre) ∧ W.ownsRow (u + 1 + 1 + 1 + 1) 30 2 zv pre.length (kidsL pre)) ∧ W.heap[u + 1]? = some (.cells #[.int .i64 0, .string ⟨#[]⟩, .string ⟨#[]⟩, .string ⟨#[]⟩, .slice none 0 0, .slice none 0 0] 53 (0, 0)) ∧ Below u w W ∧ u + 1 + 1 + 1 + 1 ≤ W.heap.size) := by
    rintro s A C row ⟨⟨yv, zv, hc, hy, hz⟩, h6, hb, hsz⟩ hg hr
    have e : ∀ (k : Nat), k < Wl.heap.size → k < A.heap.size → C.heap[k]? = A.heap[k]? := fun k hk hA => hg.block k hA (fun e => by have := (hr k e.symm).1; omega)
    have hMo : Mod (fun k => row = some k) A C := ⟨hg.os, hg.tape, hg.output, hg.size, fun k hk hn => hg.block k hk (fun e => hn e.symm)⟩
    have hno : ∀ {B e s n : Nat} {v : Value} {xs : List Value}, A.ownsRow B e s v n xs → ∀ k, v.ownBlock = some k → ¬ row = some k := fun h k e1 e2 => by
      obtain ⟨_, o, ho, hoc⟩ := hr k e2
      obtain ⟨_, ⟨rfl, _⟩ | ⟨g, cap, cur, rfl, _, hcc, _⟩⟩ := h
      · simp [Value.ownBlock] at e1
      · simp only [Value.ownBlock, Option.some.injEq] at e1
        subst e1
        rw [hcc] at ho
        cases ho
        cases hoc
    exact ⟨⟨yv, zv, (e _ (by omega) (lt_of_block hc)).trans hc, own_mod hy hMo (hno hy), own_mod hz hMo (hno hz)⟩, (e _ (by omega) (lt_of_block h6)).trans h6, hb.trans ⟨hg.os, hg.tape, hg.output, hg.size, fun k hk => hg.block k (by have := hb.size; omega) (fun e => by have := (hr k e.symm).1; omega)⟩, Nat.le_trans hsz hg.size⟩
  have hAx0 : ∀ (y : Kd) (a' : Act), OwnFrom Wl.heap.size (fun (_ : Unit) W => ∃ Bx, u + 1 + 1 + 1 + 1 ≤ Bx ∧ (W).heap[Bx]? = some (.cells #[.int .i64 (y).s, .int .u32 (y).g] 30 (0, 0)) ∧ ¬ MineOf (u + 1 + 1) W Bx ∧ a' = ({ tmps := #[(.agg #[.int .i64 k, .string ⟨#[]⟩, .string ⟨#[]⟩, .string pt, .slice ya yn yc, .slice za zn zc]), .iface 198 (.pointer (some ⟨x, 0, none⟩)), .int .i64 k', .pointer (some ⟨u, 0, none⟩), undef, undef, .pointer (some ⟨(u + 1), 0, none⟩), .pointer (some ⟨(u + 1 + 1), 0, none⟩), .int .u8 (y).b, .pointer (some ⟨Bx, 0, none⟩), .int .i64 k', .pointer (some ⟨u, 0, none⟩), .pointer (some ⟨u, 3, none⟩), .string pt, .agg #[.int .i64 k', .string ⟨#[]⟩, .string ⟨#[]⟩, .string pt, .slice none 0 0, .slice none 0 0], .iface 198 (.pointer (some ⟨x, 0, none⟩)), .func (.func 188) #[] #[.pointer (some ⟨(u + 1 + 1 + 1), 0, none⟩)], .int .u8 (y).b, .agg #[.int .i64 (y).s, .int .u32 (y).g], undef, undef, undef, undef, undef, undef, undef, undef, undef, undef, undef, undef, undef], defers := [] } : Act)) := by
    rintro y a' s A C row ⟨Bx, h1, h2, h4, h3⟩ hg hr
    refine ⟨Bx, h1, (hg.block Bx (lt_of_block h2) (fun e => ?_)).trans h2, fun hm => h4 ((mineOf_ok (c7 := u + 1 + 1) (n₀ := Wl.heap.size) (by omega)).grow (by have := lt_of_block h2; omega) hg hr hm), h3⟩
    obtain ⟨_, o, ho, hoc⟩ := hr Bx e.symm
    rw [h2] at ho
    cases ho
    cases hoc
  have hml : ∀ i, MineOf (u + 1 + 1) Wl i → i < Wl.heap.size := fun i hm => by
    rcases hm with ⟨n, c, hm⟩ | ⟨n, c, hm⟩
    · rw [cell_of H7.out 4] at hm; simp at hm
    · rw [cell_of H7.out 5] at hm; simp at hm
  have HIO := hid hI0
  have HAO := hid hAx0
  have HML := hid hml
  clear hI0 hAx0 hml
  refine wpIn_wide.1 (range_own (n := 8) (by decide) (gf := 188) (lb := #[.pointer (some ⟨(u + 1 + 1 + 1), 0, none⟩)]) rfl (enters_of Tryz.func188 (by kernel_rfl) rfl) (MineOf (u + 1 + 1)) (mineOf_ok (by omega)) (M.mAll1_own (u + 1 + 1 + 1) x gr gu r L Wl H8.out HK.out _ (mineOf_ok (by omega))) (Nat.le_refl _) HML.out (Below.refl _ _) (fun _ => rfl)
    (fun (pre : List Kd) W => (∃ yv zv, W.heap[u + 1 + 1]? = some (.cells #[.int .i64 k', .string ⟨#[]⟩, .string ⟨#[]⟩, .string pt, yv, zv] 53 (0, 0)) ∧ W.ownsRow (u + 1 + 1 + 1 + 1) 5 1 yv pre.length (bytesL pre) ∧ W.ownsRow (u + 1 + 1 + 1 + 1) 30 2 zv pre.length (kidsL pre)) ∧ W.heap[u + 1]? = some (.cells #[.int .i64 0, .string ⟨#[]⟩, .string ⟨#[]⟩, .string ⟨#[]⟩, .slice none 0 0, .slice none 0 0] 53 (0, 0)) ∧ Below u w W ∧ u + 1 + 1 + 1 + 1 ≤ W.heap.size) (fun _ _ => False) HIO.out (fun _ _ _ _ h _ _ => h) ⟨⟨_, _, H7.out, World.ownsRow_nil _ _ _ _, World.ownsRow_nil _ _ _ _⟩, H6.out, HB.out, by omega⟩ (fun y a' W => ∃ Bx, u + 1 + 1 + 1 + 1 ≤ Bx ∧ (W).heap[Bx]? = some (.cells #[.int .i64 (y).s, .int .u32 (y).g] 30 (0, 0)) ∧ ¬ MineOf (u + 1 + 1) W Bx ∧ a' = ({ tmps := #[(.agg #[.int .i64 k, .string ⟨#[]⟩, .string ⟨#[]⟩, .string pt, .slice ya yn yc, .slice za zn zc]), .iface 198 (.pointer (some ⟨x, 0, none⟩)), .int .i64 k', .pointer (some ⟨u, 0, none⟩), undef, undef, .pointer (some ⟨(u + 1), 0, none⟩), .pointer (some ⟨(u + 1 + 1), 0, none⟩), .int .u8 (y).b, .pointer (some ⟨Bx, 0, none⟩), .int .i64 k', .pointer (some ⟨u, 0, none⟩), .pointer (some ⟨u, 3, none⟩), .string pt, .agg #[.int .i64 k', .string ⟨#[]⟩, .string ⟨#[]⟩, .string pt, .slice none 0 0, .slice none 0 0], .iface 198 (.pointer (some ⟨x, 0, none⟩)), .func (.func 188) #[] #[.pointer (some ⟨(u + 1 + 1 + 1), 0, none⟩)], .int .u8 (y).b, .agg #[.int .i64 (y).s, .int .u32 (y).g], undef, undef, undef, undef, undef, undef, undef, undef, undef, undef, undef, undef, undef], defers := [] } : Act)) HAO.out ?assign ?body ?done ?stop)
  case assign =>
    rintro l pre y W K ⟨⟨yv, zv, hc, hy, hz⟩, h6, hb, hsz⟩ hK
    dsimp only [F.encK]
    gi_wp2_with fail
    have hbl : Below W.heap.size W (W.alloc (.cells #[.int .i64 y.s, .int .u32 y.g] 30 (0, 0))) := (Below.refl _ _).alloc (Nat.le_refl _) _
    have hlt := lt_of_block hc
    have hWl : Wl.heap.size ≤ W.heap.size := by omega
    refine hK _ _ (keepsFrom_below hbl) (KpM.below (mineOf_ok (by omega)) hWl hbl) ⟨⟨yv, zv, blk_alloc2 hc, hy.alloc _, hz.alloc _⟩, blk_alloc2 h6, hb.trans (hbl.mono (by have := hb.size; omega)), by have := hbl.size; omega⟩ ⟨W.heap.size, by omega, heap_new _ _, fun hm => ?_, rfl⟩
    have hc' := blk_alloc2 (o' := .cells #[.int .i64 y.s, .int .u32 y.g] 30 (0, 0)) hc
    rcases hm with ⟨n, c, hm⟩ | ⟨n, c, hm⟩
    · rw [cell_of hc' 4] at hm
      have e : yv = .slice (some ⟨W.heap.size, 0, none⟩) n c := by simpa using hm
      have := (own_ge hy (k := W.heap.size) (by rw [e]; rfl)).2
      omega
    · rw [cell_of hc' 5] at hm
      have e : zv = .slice (some ⟨W.heap.size, 0, none⟩) n c := by simpa using hm
      have := (own_ge hz (k := W.heap.size) (by rw [e]; rfl)).2
      omega
  case body =>
    rintro l pre y a' W hl hrec ⟨⟨yv, zv, hc, hy, hz⟩, h6, hb, hsz⟩ ⟨Bx, hBx, hX, hnm, rfl⟩ hlen
    have hn1 : ∀ {v : Value} {e : TypeId} {s n : Nat} {xs : List Value}, W.ownsRow (u + 1 + 1 + 1 + 1) e s v n xs → ∀ k, v.ownBlock = some k → k < W.heap.size := fun h k e => (own_ge h e).2
    have hblk : ∀ {v : Value} {e : TypeId} {s n : Nat} {xs : List Value}, W.ownsRow (u + 1 + 1 + 1 + 1) e s v n xs → ∀ k, v.ownBlock = some k → ∃ n' c, v = .slice (some ⟨k, 0, none⟩) n' c := fun h k e => by
      obtain ⟨_, ⟨rfl, _⟩ | ⟨g, cap, cur, rfl, _, _, _⟩⟩ := h
      · simp [Value.ownBlock] at e
      · simp only [Value.ownBlock, Option.some.injEq] at e; subst e; exact ⟨_, _, rfl⟩
    have hBS : ¬ OfS (u + 1 + 1) yv zv Bx := by
      rintro (e | e | e)
      · omega
      · obtain ⟨n', c, rfl⟩ := hblk hy _ e
        exact hnm (.inl ⟨n', c, by rw [cell_of hc 4]; rfl⟩)
      · obtain ⟨n', c, rfl⟩ := hblk hz _ e
        exact hnm (.inr ⟨n', c, by rw [cell_of hc 5]; rfl⟩)
    have HC := hid hc
    have HY := hid hy
    have HZ := hid hz
    have HXB := hid hX
    have HBS := hid hBS
    have HN1 := hid (hn1 hy)
    have HN2 := hid (hn1 hz)
    have HBK := hid (And.intro (hblk hy) (hblk hz))
    have H6B := hid h6
    have HBB := hid hb
    clear hc hy hz hX hBS hn1 hblk h6 hb hnm
    obtain ⟨i1, hi1, hz1, hs1, hby1⟩ := info_parts (P := Tryz.prog) (e := 5) (z := .int .u8 0) (size := 1) (bytes := 1) (by kernel_rfl)
    obtain ⟨i2, hi2, hz2, hs2, hby2⟩ := info_parts (P := Tryz.prog) (e := 30) (z := .agg #[.int .i64 0, .int .u32 0]) (size := 2) (bytes := 16) (by kernel_rfl)
    have HI1 := hid hi1
    have HZ1 := hid hz1
    have HS1 := hid hs1
    have HY1 := hid hby1
    have HI2 := hid hi2
    have HZ2 := hid hz2
    have HS2 := hid hs2
    have HY2 := hid hby2
    clear hi1 hz1 hs1 hby1 hi2 hz2 hs2 hby2
    gi_wp2_with fail
    refine rgn_val (fok_round _ _) (by kernel_rfl) 14 (OfJ W (u + 1 + 1) (u + 1 + 1 + 1 + 1) pre.length (.int .i64 k') pt yv zv (bytesL pre) (kidsL pre) y.b y.s y.g (fun j => ([.pointer (some ⟨u + 1 + 1, 4, none⟩), yv, .int .u8 y.b, undef, undef, .pointer (some ⟨u + 1 + 1, 5, none⟩), zv, .agg #[.int .i64 y.s, .int .u32 y.g], undef, undef, .pointer (some ⟨u + 1 + 1, 4, none⟩), undef, .pointer (some ⟨u + 1 + 1, 5, none⟩)] : List Value)[j]?.getD undef)) (by kernel_rfl) (by kernel_rfl) (by kernel_rfl) ?h0 ?hs ?hend
    case h0 => exact OfJ.start HY.out HZ.out HC.out
    case hs =>
      dsimp only [List.take, AllOpsI, dsts, fill]
      refine ⟨?_, ?_, ?_, ?_, ?_, ?_, ?_, ?_, ?_, ?_, ?_, ?_, ?_, ?_⟩
      · intro D xs w1 hDk hwt hJ
        skip
        skip
        have HJ := hid hJ
        clear hDk hwt hJ
        go_wp2_with fail
        first | exact ⟨.pointer (some ⟨u + 1 + 1, 4, none⟩), by kernel_rfl, fun q hq => by obtain rfl := hq rfl; exact HJ.out.calm (by decide) rfl⟩ | exact ⟨.pointer (some ⟨u + 1 + 1, 4, none⟩), by kernel_rfl, HJ.out.calm (by decide) rfl⟩
      · intro D xs w1 hDk hwt hJ
        have ee : xs 0 = .pointer (some ⟨u + 1 + 1, 4, none⟩) := hJ.v 0 (hwt 0 (List.mem_of_elem_eq_true (by kernel_rfl))) (by decide)
        rw [ee]
        clear ee
        have hd : D 11 = false := by
          cases e : D 11
          · rfl
          · have := (hJ.o4 (hJ.o11 e)).1
            rw [this] at hDk
            cases hDk
        have hc7 := hJ.c
        rw [hd] at hc7
        have q := cell_of hc7 4
        clear hc7 hd
        have HJ := hid hJ
        clear hDk hwt hJ
        go_wp2_with fail
        first | exact ⟨yv, by kernel_rfl, fun q hq => by obtain rfl := hq rfl; exact HJ.out.calm (by decide) rfl⟩ | exact ⟨yv, by kernel_rfl, HJ.out.calm (by decide) rfl⟩
      · intro D xs w1 hDk hwt hJ
        skip
        skip
        have HJ := hid hJ
        clear hDk hwt hJ
        go_wp2_with fail
        first | exact ⟨.int .u8 y.b, by kernel_rfl, fun q hq => by obtain rfl := hq rfl; exact HJ.out.calm (by decide) rfl⟩ | exact ⟨.int .u8 y.b, by kernel_rfl, HJ.out.calm (by decide) rfl⟩
      · intro D xs w1 hDk hwt hJ
        have ee : xs 2 = .int .u8 y.b := hJ.v 2 (hwt 2 (List.mem_of_elem_eq_true (by kernel_rfl))) (by decide)
        rw [ee]
        clear ee
        have h4 : D 4 = false := by
          cases e : D 4
          · rfl
          · have := (hJ.o4 e).2
            rw [this] at hDk
            cases hDk
        have HJ := hid hJ
        clear hDk hwt hJ
        go_wp2_with fail
        first | exact ⟨.slice (some ⟨w1.heap.size, 0, none⟩) 1 1, by kernel_rfl, fun q hq => by obtain rfl := hq rfl; exact HJ.out.lay3 h4⟩ | exact ⟨.slice (some ⟨w1.heap.size, 0, none⟩) 1 1, by kernel_rfl, HJ.out.lay3 h4⟩
      · intro D xs w1 hDk hwt hJ
        have hD : D 4 = false := hDk
        have hw1 : D 1 = true := hwt 1 (List.mem_of_elem_eq_true (by kernel_rfl))
        have hw2 : D 3 = true := hwt 3 (List.mem_of_elem_eq_true (by kernel_rfl))
        have ee : xs 1 = yv := hJ.v 1 (hwt 1 (List.mem_of_elem_eq_true (by kernel_rfl))) (by decide)
        rw [ee]
        clear ee
        obtain ⟨a, ea, ha, la⟩ := hJ.l3 hw2 hD
        rw [ea]
        clear ea
        have hown := hJ.y
        rw [hD] at hown
        simp only [cond_false] at hown
        have HJ := hid hJ
        have HD := hid hD
        have HWW := hid (And.intro hw1 hw2)
        have hsz1 := hJ.m.size
        clear hDk hwt hJ hD hw1 hw2
        refine wpList_append_own_at w1 rfl (.tmp 20) (.tmp 22) 51 rfl (u + 1 + 1 + 1 + 1) 5 i1 (.int .u8 0) 1 1 Tryz.underlying51 HI1.out HZ1.out HS1.out HY1.out rfl (by decide) yv (pre.length) (bytesL pre) (by kernel_rfl) hown ⟨a, 0, none⟩ 1 1 ([.int .u8 y.b]) (by kernel_rfl) rfl (fun j v hj => by rw [addr_add0, Nat.zero_add, cell_of ha, List.getElem?_toArray]; exact hj) (by simp [Value.oneCell']) (by simp [maxLen]; omega) (by omega) (by omega) ?_
        intro v' w2 g1 g2 _ g4
        go_wp2_with fail
        first | exact ⟨v', by kernel_rfl, fun q hq => by obtain rfl := hq rfl; exact HJ.out.app4 (by omega) HN1.out HD.out HWW.out g1 g2 g4⟩ | exact ⟨v', by kernel_rfl, HJ.out.app4 (by omega) HN1.out HD.out HWW.out g1 g2 g4⟩
      · intro D xs w1 hDk hwt hJ
        skip
        skip
        have HJ := hid hJ
        clear hDk hwt hJ
        go_wp2_with fail
        first | exact ⟨.pointer (some ⟨u + 1 + 1, 5, none⟩), by kernel_rfl, fun q hq => by obtain rfl := hq rfl; exact HJ.out.calm (by decide) rfl⟩ | exact ⟨.pointer (some ⟨u + 1 + 1, 5, none⟩), by kernel_rfl, HJ.out.calm (by decide) rfl⟩
      · intro D xs w1 hDk hwt hJ
        have ee : xs 5 = .pointer (some ⟨u + 1 + 1, 5, none⟩) := hJ.v 5 (hwt 5 (List.mem_of_elem_eq_true (by kernel_rfl))) (by decide)
        rw [ee]
        clear ee
        have hd : D 13 = false := by
          cases e : D 13
          · rfl
          · have := (hJ.o9 (hJ.o13 e)).1
            rw [this] at hDk
            cases hDk
        have hc7 := hJ.c
        rw [hd] at hc7
        have q := cell_of hc7 5
        clear hc7 hd
        have HJ := hid hJ
        clear hDk hwt hJ
        go_wp2_with fail
        first | exact ⟨zv, by kernel_rfl, fun q hq => by obtain rfl := hq rfl; exact HJ.out.calm (by decide) rfl⟩ | exact ⟨zv, by kernel_rfl, HJ.out.calm (by decide) rfl⟩
      · intro D xs w1 hDk hwt hJ
        skip
        have hk := (hJ.m.block Bx (lt_of_block HXB.out) HBS.out).trans HXB.out; have q0 := cell_of hk 0; have q1 := cell_of hk 1; clear hk
        have HJ := hid hJ
        clear hDk hwt hJ
        go_wp2_with fail
        first | exact ⟨.agg #[.int .i64 y.s, .int .u32 y.g], by kernel_rfl, fun q hq => by obtain rfl := hq rfl; exact HJ.out.calm (by decide) rfl⟩ | exact ⟨.agg #[.int .i64 y.s, .int .u32 y.g], by kernel_rfl, HJ.out.calm (by decide) rfl⟩
      · intro D xs w1 hDk hwt hJ
        have ee : xs 7 = .agg #[.int .i64 y.s, .int .u32 y.g] := hJ.v 7 (hwt 7 (List.mem_of_elem_eq_true (by kernel_rfl))) (by decide)
        rw [ee]
        clear ee
        have h9 : D 9 = false := by
          cases e : D 9
          · rfl
          · have := (hJ.o9 e).2
            rw [this] at hDk
            cases hDk
        have HJ := hid hJ
        clear hDk hwt hJ
        go_wp2_with fail
        first | exact ⟨.slice (some ⟨w1.heap.size, 0, none⟩) 1 1, by kernel_rfl, fun q hq => by obtain rfl := hq rfl; exact HJ.out.lay8 h9⟩ | exact ⟨.slice (some ⟨w1.heap.size, 0, none⟩) 1 1, by kernel_rfl, HJ.out.lay8 h9⟩
      · intro D xs w1 hDk hwt hJ
        have hD : D 9 = false := hDk
        have hw1 : D 6 = true := hwt 6 (List.mem_of_elem_eq_true (by kernel_rfl))
        have hw2 : D 8 = true := hwt 8 (List.mem_of_elem_eq_true (by kernel_rfl))
        have ee : xs 6 = zv := hJ.v 6 (hwt 6 (List.mem_of_elem_eq_true (by kernel_rfl))) (by decide)
        rw [ee]
        clear ee
        obtain ⟨a, ea, ha, la⟩ := hJ.l8 hw2 hD
        rw [ea]
        clear ea
        have hown := hJ.z
        rw [hD] at hown
        simp only [cond_false] at hown
        have HJ := hid hJ
        have HD := hid hD
        have HWW := hid (And.intro hw1 hw2)
        have hsz1 := hJ.m.size
        clear hDk hwt hJ hD hw1 hw2
        refine wpList_append_own_at w1 rfl (.tmp 25) (.tmp 27) 43 rfl (u + 1 + 1 + 1 + 1) 30 i2 (.agg #[.int .i64 0, .int .u32 0]) 2 16 Tryz.underlying43 HI2.out HZ2.out HS2.out HY2.out rfl (by decide) zv (pre.length) (kidsL pre) (by kernel_rfl) hown ⟨a, 0, none⟩ 1 1 ([.int .i64 y.s, .int .u32 y.g]) (by kernel_rfl) rfl (fun j v hj => by rw [addr_add0, Nat.zero_add, cell_of ha, List.getElem?_toArray]; exact hj) (by simp [Value.oneCell']) (by simp [maxLen]; omega) (by omega) (by omega) ?_
        intro v' w2 g1 g2 _ g4
        go_wp2_with fail
        first | exact ⟨v', by kernel_rfl, fun q hq => by obtain rfl := hq rfl; exact HJ.out.app9 (by omega) HN2.out HD.out HWW.out g1 g2 g4⟩ | exact ⟨v', by kernel_rfl, HJ.out.app9 (by omega) HN2.out HD.out HWW.out g1 g2 g4⟩
      · intro D xs w1 hDk hwt hJ
        skip
        skip
        have HJ := hid hJ
        clear hDk hwt hJ
        go_wp2_with fail
        first | exact ⟨.pointer (some ⟨u + 1 + 1, 4, none⟩), by kernel_rfl, fun q hq => by obtain rfl := hq rfl; exact HJ.out.calm (by decide) rfl⟩ | exact ⟨.pointer (some ⟨u + 1 + 1, 4, none⟩), by kernel_rfl, HJ.out.calm (by decide) rfl⟩
      · intro D xs w1 hDk hwt hJ
        have hw1 : D 4 = true := hwt 4 (List.mem_of_elem_eq_true (by kernel_rfl))
        have ee : xs 10 = .pointer (some ⟨u + 1 + 1, 4, none⟩) := hJ.v 10 (hwt 10 (List.mem_of_elem_eq_true (by kernel_rfl))) (by decide)
        rw [ee]
        clear ee
        have hown := hJ.y
        rw [hw1] at hown
        simp only [cond_true] at hown
        obtain ⟨sa, sn, sc, es⟩ := own_form hown
        have hst := hJ.st11 (by omega) hw1
        rw [es] at hst ⊢
        have hcc := hJ.c
        have q := cell_of hcc 4
        have qf := free_of hcc 4
        have HST := hid hst
        clear hDk hwt hJ hown hst hcc hw1
        go_wp2_with fail
        exact ⟨undef, by kernel_rfl, fun q _ => HST.out q⟩
      · intro D xs w1 hDk hwt hJ
        skip
        skip
        have HJ := hid hJ
        clear hDk hwt hJ
        go_wp2_with fail
        first | exact ⟨.pointer (some ⟨u + 1 + 1, 5, none⟩), by kernel_rfl, fun q hq => by obtain rfl := hq rfl; exact HJ.out.calm (by decide) rfl⟩ | exact ⟨.pointer (some ⟨u + 1 + 1, 5, none⟩), by kernel_rfl, HJ.out.calm (by decide) rfl⟩
      · intro D xs w1 hDk hwt hJ
        have hw1 : D 9 = true := hwt 9 (List.mem_of_elem_eq_true (by kernel_rfl))
        have ee : xs 12 = .pointer (some ⟨u + 1 + 1, 5, none⟩) := hJ.v 12 (hwt 12 (List.mem_of_elem_eq_true (by kernel_rfl))) (by decide)
        rw [ee]
        clear ee
        have hown := hJ.z
        rw [hw1] at hown
        simp only [cond_true] at hown
        obtain ⟨sa, sn, sc, es⟩ := own_form hown
        have hst := hJ.st13 (by omega) hw1
        rw [es] at hst ⊢
        have hcc := hJ.c
        have q := cell_of hcc 5
        have qf := free_of hcc 5
        have HST := hid hst
        clear hDk hwt hJ hown hst hcc hw1
        go_wp2_with fail
        exact ⟨undef, by kernel_rfl, fun q _ => HST.out q⟩
    case hend =>
      intro D xs w1 hD hJ
      have HE := hid (of_end (w := w) hs4 hD hJ HC.out HY.out HZ.out H6B.out HBB.out hsz)
      clear hD hJ
      gi_wp2_with fail
      exact HE.out
  case done =>
    rintro D xs W hD rfl ⟨⟨yv, zv, hc, hy, hz⟩, h6, hb, hsz⟩ hdf
    clear hmt hmf HIO HAO HML H6 H7 H8
    obtain ⟨yb, ycp, rfl⟩ := own_form2 hy
    obtain ⟨zb, zcp, rfl⟩ := own_form2 hz
    have q0 := cell_of hc 0
    have q1 := cell_of hc 1
    have q2 := cell_of hc 2
    have q3 := cell_of hc 3
    have q4 := cell_of hc 4
    have q5 := cell_of hc 5
    have p0 := cell_of h6 0
    have p1 := cell_of h6 1
    have p2 := cell_of h6 2
    have p3 := cell_of h6 3
    have p4 := cell_of h6 4
    have p5 := cell_of h6 5
    have qf := free_of h6
    have HLS := hid (of_last (k' := k') (pt := pt) h6 hy hz hb (by omega : u + 1 + 1 + 1 + 1 ≤ D) hdf)
    clear hy hz hc h6 hb hdf
    go_wp2_with fail
    obtain ⟨l1, l2, l3, l4, l5⟩ := HLS.out
    obtain ⟨fs, hus⟩ : ∃ fs, Tryz.prog.underlying 53 = some (.struct fs) := ⟨_, rfl⟩
    refine ⟨by simp, .inl ⟨_, _, rfl, run_takeDeferred l1, ?_⟩⟩
    exact ⟨_, results_cell_row rfl _ _ (u + 1) _ _ _ _ rfl l2 hus rfl (by kernel_rfl), _, _, _, _, rfl, l3, l4, by rw [hu]; exact l5⟩
  case stop => exact fun D pre W hD hp h hk => h.elim
end
end Go.Proofs.YtnngicopphiaaaaGreatDoor.O

namespace Go.Proofs.YtnngicopphiaaaaGreatDoor.O
set_option maxRecDepth 8000
open Go.ChangeShapes Go.WideShapes Go.ChangeAt Go.RowKit Go.Burg
section
variable {w w' : World} {B r : Nat} {v : Value} {L : List Kd}
theorem KidsAt.mod {S : Nat → Prop} (h : KidsAt B w v L r) (k : Mod S w w') (hS : ∀ i, B ≤ i → ¬ S i) : KidsAt B w' v L r := by
  rcases h with ⟨x, hx, e, hF⟩ | ⟨x, gr, gu, hx, e, hM⟩
  · exact .inl ⟨x, hx, e, hF.same (k.block x hF.lt (hS x hx))⟩
  · obtain ⟨M, h1, h2⟩ := hM.m
    exact .inr ⟨x, gr, gu, hx, e, ⟨M, h1.mod k (hS _ hx.1) (hS _ hx.2.1) (hS _ hx.2.2), h2⟩⟩
theorem mod_of_below {S : Nat → Prop} (h : Below w.heap.size w w') : Mod S w w' := ⟨h.os, h.tape, h.output, h.size, fun k hk _ => h.block k hk⟩
theorem KidsAt.keep (h : KidsAt B w v L r) (k : Below w.heap.size w w') : KidsAt B w' v L r := h.mod (mod_of_below (S := fun _ => False) k) (fun _ _ h => h)
theorem KidsAt.mono {B' : Nat} (h : KidsAt B w v L r) (hB : B' ≤ B) : KidsAt B' w v L r := by
  rcases h with ⟨x, hx, e, hF⟩ | ⟨x, gr, gu, hx, e, hM⟩
  · exact .inl ⟨x, Nat.le_trans hB hx, e, hF⟩
  · exact .inr ⟨x, gr, gu, ⟨Nat.le_trans hB hx.1, Nat.le_trans hB hx.2.1, Nat.le_trans hB hx.2.2⟩, e, hM⟩
end
structure LJ (W0 : World) (c4 iL iS : Nat) (L : List Kd) (r : Nat) (fx : List Nat) (tab : Nat → Value) (o0 o1 : Obj) (D : Nat → Bool) (xs : Nat → Value) (w : World) : Prop where
  m : Mod (· = c4) W0 w
  v : ∀ j, D j = true → j ∈ fx → xs j = tab j
  l : D iL = true → KidsAt W0.heap.size w (xs iL) L r
  c : w.heap[c4]? = some (cond (D iS) o1 o0)
section
variable {W0 w w' : World} {c4 iL iS : Nat} {L : List Kd} {r : Nat} {fx : List Nat} {tab : Nat → Value} {o0 o1 : Obj} {D : Nat → Bool} {xs : Nat → Value}
theorem LJ.start (hc : W0.heap[c4]? = some o0) : LJ W0 c4 iL iS L r fx tab o0 o1 (fun _ => false) (fun _ => undef) W0.drew :=
  ⟨(Mod.refl _ _).drew, fun j h => (by cases h), fun h => (by cases h), hc⟩
theorem LJ.calm (h : LJ W0 c4 iL iS L r fx tab o0 o1 D xs w) (_h4 : c4 < W0.heap.size) {i : Nat} {u : Value} (h1 : i ≠ iL) (h2 : i ≠ iS) (hu : i ∈ fx → u = tab i) (hb : Below w.heap.size w w') : LJ W0 c4 iL iS L r fx tab o0 o1 (fun j => D j || j == i) (fun j => if j = i then u else xs j) w' := by
  refine ⟨h.m.trans (mod_of_below hb) (fun _ _ e => e), fun j hj hr => ?_, fun e => ?_, ?_⟩
  · by_cases e : j = i
    · subst e; simp only [if_pos]; exact hu hr
    · simp only [if_neg e]; exact h.v j (by simpa [e] using hj) hr
  · have hn : ¬ iL = i := fun e => h1 e.symm
    simp only [if_neg hn]
    exact (h.l (by simpa [hn] using e)).keep hb
  · have hn : ¬ iS = i := fun e => h2 e.symm
    have e : (D iS || iS == i) = D iS := by simp [hn]
    simp only [e]
    exact (hb.block c4 (lt_of_block h.c)).trans h.c
theorem LJ.laid (h : LJ W0 c4 iL iS L r fx tab o0 o1 D xs w) (hne : iL ≠ iS) {u : Value} (hf : iL ∉ fx) (hk : KidsAt w.heap.size w' u L r) (hb : Below w.heap.size w w') : LJ W0 c4 iL iS L r fx tab o0 o1 (fun j => D j || j == iL) (fun j => if j = iL then u else xs j) w' := by
  refine ⟨h.m.trans (mod_of_below hb) (fun _ _ e => e), fun j hj hr => ?_, fun _ => ?_, ?_⟩
  · have e : ¬ j = iL := fun e => hf (e ▸ hr)
    simp only [if_neg e]; exact h.v j (by simpa [e] using hj) hr
  · simp only [if_pos]; exact hk.mono h.m.size
  · have hn : ¬ iS = iL := fun e => hne e.symm
    have e : (D iS || iS == iL) = D iS := by simp [hn]
    simp only [e]
    exact (hb.block c4 (lt_of_block h.c)).trans h.c
theorem LJ.store (h : LJ W0 c4 iL iS L r fx tab o0 o1 D xs w) (h4 : c4 < W0.heap.size) (hne : iL ≠ iS) {u : Value} (hf : iS ∉ fx) (hm : Mod (· = c4) w w') (hc : w'.heap[c4]? = some o1) : LJ W0 c4 iL iS L r fx tab o0 o1 (fun j => D j || j == iS) (fun j => if j = iS then u else xs j) w' := by
  refine ⟨h.m.trans hm (fun _ _ e => e), fun j hj hr => ?_, fun e => ?_, ?_⟩
  · have e : ¬ j = iS := fun e => hf (e ▸ hr)
    simp only [if_neg e]; exact h.v j (by simpa [e] using hj) hr
  · simp only [if_neg hne]
    exact (h.l (by simpa [hne] using e)).mod hm (fun i hi e => by subst e; omega)
  · simp only [beq_self_eq_true, Bool.or_true, cond_true]; exact hc
end
end Go.Proofs.YtnngicopphiaaaaGreatDoor.O
