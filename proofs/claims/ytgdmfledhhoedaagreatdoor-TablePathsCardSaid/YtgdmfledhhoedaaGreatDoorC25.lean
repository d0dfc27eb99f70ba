/- Part 25 of 26. -/
import Derived.Test.YtgdmfledhhoedaaGreatDoorC22
import Derived.Test.YtgdmfledhhoedaaGreatDoorC24
import Derived.Test.YtgdmfledhhoedaaGreatDoorC19
import Derived.Test.YtgdmfledhhoedaaGreatDoorC20
import Derived.Test.YtgdmfledhhoedaaGreatDoorC23
import Derived.Test.YtgdmfledhhoedaaGreatDoorC09
import Derived.Test.YtgdmfledhhoedaaGreatDoorC02
import Derived.Test.YtgdmfledhhoedaaGreatDoorC01
namespace Go.Proofs.YtgdmfledhhoedaaGreatDoor.T
set_option maxRecDepth 8000
open Go.ChangeShapes Go.WideShapes Go.ChangeAt Go.RowKit Go.Burg
open Go.Burg.Lk
open Go.Burg.Purse (St Inv)
variable {c n p t x : Nat} {l : Nat -> Ten}
theorem anchor1_any (w : World) (h : TabAt 87 w x t l) (h2 : n <= 16) {u v : Int} (hc : w.heap[c]? = some (.cells #[.int .i64 u, .int .u32 v] 36 (0, 0))) :
 Calls Tryz.prog 27 #[.pointer (some ⟨x, 1 + n * 4, none⟩), .pointer (some ⟨c, 0, none⟩)] w fun e w' => e = .returned (.tuple #[]) /\ w'.heap[c]? = some (.cells #[.int .i64 (l n).slot, .int .u32 (l n).agen] 36 (0, 0)) /\ Mod (· = c) w w' := by
 obtain ⟨_, c1, c2, _⟩ := h.cell (show n < 17 by omega)
 have k0 := cell_of hc 0
 have k1 := cell_of hc 1
 have kf := z0e hc
 have HC := hid hc
 clear hc h
 go_enter Tryz.func27, Tryz.ntmps27
 go_wp2_with fail
 go_end0
 exact ⟨rfl, z0w (z0w (cs' := #[.int .i64 (l n).slot, .int .u32 v]) HC.out rfl) rfl, Mod.setCell (S := (· = c)) (p := ⟨c, 1, none⟩) (Mod.setCell (S := (· = c)) (p := ⟨c, 0, none⟩) (Mod.refl _ _) (.inl rfl) _) (.inl rfl) _⟩
theorem of_anchor (w : World) (h : TabAt 87 w x t l) (h1 : 1 <= n) (h2 : n <= 16) (hp : (l n).purse = some p) {u v : Int} (hc : w.heap[c]? = some (.cells #[.int .i64 u, .int .u32 v] 36 (0, 0))) :
 Calls Tryz.prog 23 #[.pointer (some ⟨x, 0, none⟩), .int .i64 n, .func (.func 27) #[] #[.pointer (some ⟨c, 0, none⟩)]] w fun e w' => e = .returned (.int .i64 0) /\ w'.heap[c]? = some (.cells #[.int .i64 (l n).slot, .int .u32 (l n).agen] 36 (0, 0)) /\ Mod (· = c) w w' := by
 have HI := hid (anchor1_any w h h2 hc)
 clear hc
 have HT := hid (z1g w h)
 obtain ⟨_, cf⟩ := h.head
 obtain ⟨c0, c1, c2, c3⟩ := h.cell (show n < 17 by omega)
 rw [hp] at c3
 simp only [Option.map_some] at c3
 clear c0 c1 c2 hp
 have g1 : decide ((n : Int) < 1) = false := by simp; omega
 have g2 : decide ((n : Int) > 16) = false := by simp; omega
 go_enter Tryz.func23, Tryz.ntmps23
 go_wp2_with (first | (go_at_call 55; refine HT.out.mono ?_; rintro e w2 ⟨rfl, rfl⟩) | (go_at_call 27; refine HI.out.mono ?_; rintro e w2 ⟨rfl, hC, hM⟩))
 go_ret
 exact ⟨rfl, hC, hM⟩
theorem Anchor_at (w : World) (h : TabAt 87 w x t l) (h1 : 1 <= n) (h2 : n <= 16) (hp : (l n).purse = some p) :
 Calls Tryz.prog 7 #[.pointer (some ⟨x, 0, none⟩), .int .i64 n] w fun e w' => e = .returned (.tuple #[.agg #[.int .i64 (l n).slot, .int .u32 (l n).agen], .bool true]) /\ Below w.heap.size w w' := by
 have hA := h.alloc (.cells #[.int .i64 0, .int .u32 0] 36 (0, 0))
 have hN := z0a w (.cells #[.int .i64 0, .int .u32 0] 36 (0, 0))
 have HI := hid (of_anchor _ hA h1 h2 hp hN)
 clear hA hN hp
 go_enter Tryz.func7, Tryz.ntmps7
 go_wp2_with (go_at_call 23; refine HI.out.mono ?_; rintro e w2 ⟨rfl, hC, hM⟩; have k0 := cell_of hC 0; have k1 := cell_of hC 1; have kf := z0e hC)
 refine bodyPost_ret (v := .tuple #[.agg #[_, _], _]) (by simp [results, Tryz.results7, go_sem, k0, k1]) rfl ⟨rfl, ?_⟩
 have hB : Below w.heap.size w w2 := below_of hM
 exact (hB.setCell (Nat.le_refl _) _).setCell (Nat.le_refl _) _
theorem create_P {sb sg kb km j : Nat} {lt : Nat -> Ten} {P : List (Cel PNd)} {L : List (RefK × Wd)} {tk : Int} {pj : Cel PNd} (mk mb : Int) (w : World) (hX : TabAt 87 w x t lt) (h : z1c w t sb sg kb km P L tk)
 (hx : x ≠ t /\ x ≠ sb /\ x ≠ sg /\ x ≠ kb /\ x ≠ km) (h1 : 1 <= n) (h2 : n <= 16) (hp : (lt n).purse = none) (hg : 0 <= (lt n).gen /\ (lt n).gen < 4294967295)
 (hF : z2q P (j : Int)) (hj : P[j]? = some pj) (hr : pj.room = true) (r : RefK) (hr1 : r.1.1 = j) (hr2 : r.1.2 = pj.gen + 1) :
 Calls Tryz.prog 6 #[.pointer (some ⟨x, 0, none⟩), .int .i64 n, .agg #[.int .u64 mk, .int .u64 mb]] w fun e w' => e = .returned (.int .i64 0) /\ ∃ p m, TabAt 87 w' x t (upd lt n ⟨(lt n).gen + 1, j, pj.gen + 1, some p⟩) /\ z1c w' t sb sg kb km (P.set j ⟨true, ⟨.z0j 5 ⟨#[]⟩ [], true, false⟩, pj.gen + 1⟩) (K.addL L r).2 tk /\ z0i w' p m (St.new mk mb) /\ w.heap.size <= p /\ w.heap.size <= m /\ Mod (COwn x sg km) w w' := by
 obtain ⟨l, hl, hre⟩ := h
 obtain ⟨cj, hcj, _, hcg, hcr⟩ := hre.cell hj
 have hxr : NoRow w x := fun cs T fr hk => by
  obtain ⟨cs', h1, _⟩ := hX
  rw [h1] at hk
  cases hk
  exact ⟨by decide, by decide⟩
 have := create_new mk mb w hX hl hx h1 h2 hp hg (hre.first hF) hcj (hcr.trans hr) r hr1 (hr2.trans (by rw [hcg]))
 rw [hcg] at this
 refine this.mono ?_
 rintro e w' ⟨e1, p, m, a1, a2, a3, a4, a5, hM⟩
 have hre' := hre.mod hM (fun k hk => by
  rcases hk with e | hk
  ·subst e; exact hxr
  ·exact hl.noRow k hk)
 exact ⟨e1, p, m, a1, ⟨_, a2, Rel.set (x := anchorN) (q := ⟨.z0j 5 ⟨#[]⟩ [], true, false⟩) hre' true (fun _ => ⟨rfl, rfl, rfl, rfl, rfl, rfl, ⟨World.ownsRow_nil _ _ _ _, World.ownsRow_nil _ _ _ _, by omega, by omega, by decide, by simp [z0t], List.Pairwise.nil, fun _ h => by simp at h⟩, .inr ⟨rfl, rfl⟩⟩)⟩, a3, a4, a5, hM⟩
theorem fresh_at (n : Nat) (w : World) (h1 : 1 <= n) (h2 : n <= 4096) :
 Calls Tryz.prog 5 #[.int .i64 n] w fun e w' => ∃ x t sb sg kb km, e = .returned (.tuple #[.pointer (some ⟨x, 0, none⟩), .pointer (some ⟨t, 0, none⟩)]) /\ TabAt 87 w' x t (fun _ => Ten.zero) /\ TreeAt w' t sb sg kb km (List.replicate n ⟨false, Nd.zero, 0⟩) [] 0 /\ (w.heap.size <= x /\ w.heap.size <= t /\ w.heap.size <= sb /\ w.heap.size <= sg /\ w.heap.size <= kb /\ w.heap.size <= km) /\ (x ≠ t /\ x ≠ sb /\ x ≠ sg /\ x ≠ kb /\ x ≠ km) /\ Below w.heap.size w w' := by
 have HS := hid (tNew_at n w h1 h2)
 have HK := hid (fun t w => tabNew_at t w)
 go_enter Tryz.func5, Tryz.ntmps5
 go_wp2_with (first | (go_at_call 21; refine HS.out.mono ?_; rintro e w2 ⟨t, sb, sg, kb, km, rfl, hT, hl, hB2⟩; have hT := hid hT; have hl := hid hl; have hB2 := hid hB2) | (go_at_call 22; refine (HK.out _ _).mono ?_; rintro e w3 ⟨x, rfl, hX, hx, hB3⟩; have hX := hid hX; have hx := hid hx; have hB3 := hid hB3))
 go_ret2
 have hl := hl.out
 have hx := hx.out
 have g1 := lt_of_block hT.out.ht
 have g2 := hT.out.hs.blt
 have g3 := hT.out.hs.glt
 have g4 := hT.out.hk.lt
 have g5 := hB2.out.size
 exact ⟨x, t, sb, sg, kb, km, rfl, hX.out, hT.out.keep hB3.out, by omega, by omega, z0c hB2.out hB3.out hB2.out.size⟩
end Go.Proofs.YtgdmfledhhoedaaGreatDoor.T
namespace Go.Burg
open Go Go.RowKit
def zeroP : PNd := ⟨.leaf ⟨#[]⟩ ⟨#[]⟩, false, false⟩
end Go.Burg
namespace Go.Proofs.YtgdmfledhhoedaaGreatDoor.T
set_option maxRecDepth 8000
open Go.ChangeShapes Go.WideShapes Go.ChangeAt Go.RowKit Go.Burg
open Go.Burg.Lk Go.Shelf
attribute [local go_sem] Oper.semAt_some
def rkOf (r : Int × Int) : RefK := if h : (Lit.int .i64 r.1).wf = true /\ (Lit.int .u32 r.2).wf = true then ⟨r, h⟩ else ⟨(0, 0), by decide⟩
def freeC (l : List (Cel Nd)) (r : Int × Int) : List (Cel Nd) := l.set r.1.toNat ⟨false, Nd.zero, r.2⟩
def goneC (L : List (RefK × Wd)) (r : Int × Int) : List (RefK × Wd) := (K.goneL L (rkOf r)).2
structure FellS (w wl : World) (t sb sg kb km u i : Nat) (g : Int) (l : List (Cel Nd)) (L : List (RefK × Wd)) (tk : Int) (pre : List (Int × Int)) (W : World) : Prop where
 b2 : W.heap[u]? = some (.cells #[.pointer (some ⟨t, 0, none⟩)] 25 (0, 0))
 b3 : W.heap[u + 1]? = some (.cells #[.int .i64 i, .int .u32 g] 36 (0, 0))
 ta : TreeAt W t sb sg kb km (pre.foldl freeC l) (pre.foldl goneC L) tk
 nb : W.heap[u + 1 + 1]? = some (.cells #[.int .i64 (pre.length : Nat)] 3 (0, 0))
 mod : Mod (TOwn sg km) w W
 sz : wl.heap.size <= W.heap.size
end Go.Proofs.YtgdmfledhhoedaaGreatDoor.T
namespace Go.Burg
open Go Go.RowKit
def vB : ByteArray := ⟨#[118]⟩
structure PSt where
 lt : Nat -> Ten
 an : Nat -> Nat
 Zs : Nat -> Nat -> Prop
 Es : Nat -> Ents
 P : List (Cel PNd)
 W : List (ByteArray × Bool)
structure PI (s : PSt) (r : Nat) : Prop where
 tens : Tens s.P s.lt s.an s.Zs s.Es
 gen0 : ∀ n, (s.lt n).purse = none -> (s.lt n).gen = 0
 len : s.P.length = 200
 gok : GenOk s.P
 room : 200 <= z1i s.P + r
 val : ∀ n e, e ∈ s.Es n -> e.2 = vB
 want : Wants s.lt s.Es s.W
 wl : s.W.length <= r
def PSt.start : PSt := ⟨fun _ => Ten.zero, fun _ => 0, fun _ _ => False, fun _ => [], List.replicate 200 ⟨false, zeroP, 0⟩, []⟩
theorem tens_zero (k : Nat) : tens (fun _ => Ten.zero) k = [] := by
 unfold tens
 rw [List.filter_eq_nil_iff]
 intro a _ h
 cases h
theorem room_rep {α : Type} (n : Nat) (x : α) : z1i (List.replicate n (⟨false, x, 0⟩ : Cel α)) = n := by
 have h : (⟨false, x, 0⟩ : Cel α).room = true := rfl
 unfold z1i
 rw [List.filter_replicate, if_pos h, List.length_replicate]
theorem PI.start : PI PSt.start 0 := by
 refine ⟨⟨fun n p h => (by cases h), fun n _ => ⟨fun _ h => h, rfl⟩, fun _ _ _ _ h => h.elim⟩, fun _ _ => rfl, List.length_replicate .., fun p hp => ?_, ?_, fun n e h => (by cases h), ?_, ?_⟩
 ·have := (List.mem_replicate.1 hp).2
  subst this
  simp
 ·show 200 <= z1i (List.replicate 200 _) + 0
  rw [room_rep]
  exact Nat.le_refl _
 ·refine ⟨List.nodup_nil, fun x hx => (by cases hx), fun s => ?_⟩
  simp [PSt.start, z0v, tens_zero]
 ·exact Nat.le_refl _
theorem set_len {W : List (ByteArray × Bool)} {k : ByteArray} : (setKV W k true).length <= W.length + 1 := by
 unfold setKV
 split <;> simp
variable {r : Nat}
theorem PI.more {s : PSt} {r' : Nat} (h : PI s r) (hr : r <= r') : PI s r' := ⟨h.tens, h.gen0, h.len, h.gok, by have := h.room; omega, h.val, h.want, by have := h.wl; omega⟩
theorem PI.first {s : PSt} (h : PI s r) (hr : r < 200) : ∃ (j : Nat) (pj : Cel PNd), z2q s.P (j : Int) /\ s.P[j]? = some pj /\ pj.room = true /\ j < 200 /\ 0 <= pj.gen /\ pj.gen < 4294967295 := by
 obtain ⟨j, pj, h1, h2, h3⟩ := first_ex (P := s.P) (by have := h.room; omega)
 exact ⟨j, pj, h1, h2, h3, by have := (List.getElem?_eq_some_iff.1 h2).1; rw [h.len] at this; exact this, h.gok.at h2, by
  unfold Cel.room at h3
  simp at h3
  exact h3.2⟩
theorem PI.create {s : PSt} {r n j p : Nat} {pj : Cel PNd} (h : PI s r) (hp : (s.lt n).purse = none) (hj : s.P[j]? = some pj) (hr : pj.room = true) :
 PI ⟨upd s.lt n ⟨(s.lt n).gen + 1, j, pj.gen + 1, some p⟩, updF s.an n j, updF s.Zs n (· = j), updF s.Es n [], s.P.set j ⟨true, ⟨.z0j 5 ⟨#[]⟩ [], true, false⟩, pj.gen + 1⟩, s.W⟩ (r + 1) := by
 have hc := Chg.take hj hr ⟨.z0j 5 ⟨#[]⟩ [], true, false⟩
 refine ⟨h.tens.create hp hj hr, fun m hm => ?_, by rw [<- h.len]; exact hc.len, hc.gen h.gok, ?_, fun m e he => ?_, h.want.create hp, by have := h.wl; simp only; omega⟩
 ·by_cases e : m = n
  ·subst e; simp [upd] at hm
  ·simp only [upd, if_neg e] at hm ⊢
   exact h.gen0 m hm
 ·have := hc.room
  have := h.room
  simp only
  omega
 ·by_cases e' : m = n
  ·subst e'
   simp only [updF, if_pos] at he
   cases he
  ·simp only [updF, if_neg e'] at he
   exact h.val m e he
theorem PI.put {s : PSt} {r n p : Nat} (h : PI s r) (h1 : 1 <= n) (h2 : n <= 16) (hp : (s.lt n).purse = some p) {P' : List (Cel PNd)} {S' : Nat -> Prop} {E' : Ents} {c : ByteArray} (hR : PutR s.P P' (s.an n) (s.lt n).agen (s.Zs n) S' (s.Es n) E' c vB) (hC : Chg s.P P' 2) :
 PI ⟨s.lt, s.an, updF s.Zs n S', updF s.Es n E', P', setKV s.W (z2b n ++ c) true⟩ (r + 2) := by
 refine ⟨h.tens.put hp hR, h.gen0, by rw [<- h.len]; exact hC.len, hC.gen h.gok, ?_, fun m e he => ?_, ?_, by have := h.wl; have := set_len (W := s.W) (k := z2b n ++ c); simp only; omega⟩
 ·have := hC.room
  have := h.room
  simp only
  omega
 ·by_cases e' : m = n
  ·subst e'
   simp only [updF, if_pos] at he
   have := (hR.ent.mem_iff).1 he
   rw [List.mem_cons] at this
   rcases this with rfl | h3
   ·rfl
   ·exact h.val m e (List.mem_filter.1 h3).1
  ·simp only [updF, if_neg e'] at he
   exact h.val m e he
 ·refine h.want.put (n := n) (v := vB) (mem_tens.2 ⟨h1, h2, by rw [hp]; rfl⟩) ?_ ?_
  ·funext m
   by_cases e : m = n
   ·subst e; simp [updF]
   ·simp [updF, e]
  ·simp only [updF, if_pos]
   exact hR.ent
end Go.Burg
namespace Go.Proofs.YtgdmfledhhoedaaGreatDoor.T
set_option maxRecDepth 8000
open Go.ChangeShapes Go.WideShapes Go.ChangeAt Go.RowKit Go.Burg
open Go.Burg.Lk
theorem KeyOk.str {P : Program} {K : TypeId} (hd : P.underlying K = some .string) : KeyOk P K Value.string where
 check w em x := MapKept.run_checkKey hd (d := .string) (by simp [MapKept.IsKey]) em 9999
 find w x es hes := by
  rcases MapKept.findNow_spec (d := .string) (k := .string x) (by simp [MapKept.IsKey]) es 0 (fun e he => by obtain ⟨y, hy⟩ := hes e he; rw [hy]; simp [MapKept.IsKey]) with ⟨h1, h2⟩ | ⟨j, e0, h1, h2, h3⟩
  ·exact .inl ⟨MapKept.run_findKey hd h1, h2⟩
  ·exact .inr ⟨j, e0, by simpa using MapKept.run_findKey hd h1, h2, h3⟩
 stays w x := MapKept.run_keyThatStays (d := .string) (by simp [MapKept.IsKey])
 inj x y h := by cases h; rfl
theorem strKey : KeyOk Tryz.prog 9 Value.string := KeyOk.str Tryz.underlying9
def ElAt (w : World) (a : Option Addr) (len : Nat) (f : Nat -> Value) : Prop := 0 < len -> ∃ bl off, a = some ⟨bl, off, none⟩ /\ bl < w.heap.size /\ ∀ i, i < len -> w.cell? ⟨bl, off + i, none⟩ = some (f i)
theorem ElAt.get {w wr : World} {a : Option Addr} {len : Nat} {f : Nat -> Value} (h : ElAt w a len f) (hb : Below w.heap.size w wr) {i : Nat} (hi : i < len) : ∃ bl off, a = some ⟨bl, off, none⟩ /\ wr.cell? ⟨bl, off + i, none⟩ = some (f i) := by
 obtain ⟨bl, off, h1, h2, h3⟩ := h (by omega)
 exact ⟨bl, off, h1, (World.cell?_of_block (w := w) (hb.block bl h2)).trans (h3 i hi)⟩
structure PW (w : World) (rb x t sb sg kb km mb m : Nat) (L : List (RefK × Wd)) (s : PSt) (W : World) : Prop where
 rb : W.heap[rb]? = some (.cells #[.bool false] 4 (0, 0))
 mb : W.heap[mb]? = some (.cells #[.map (some m)] 28 (0, 0))
 mp : z0q Value.string Value.bool W m s.W
 tb : TabAt 87 W x t s.lt
 tp : z1c W t sb sg kb km s.P L 0
 md : Below w.heap.size w W
structure PD (w : World) (rb x t sb sg kb km mb m : Nat) : Prop where
 lo : w.heap.size <= rb /\ w.heap.size <= x /\ w.heap.size <= t /\ w.heap.size <= sb /\ w.heap.size <= sg /\ w.heap.size <= kb /\ w.heap.size <= km /\ w.heap.size <= mb /\ w.heap.size <= m
 xx : x ≠ t /\ x ≠ sb /\ x ≠ sg /\ x ≠ kb /\ x ≠ km
 rr : rb ≠ x /\ rb ≠ sg /\ rb ≠ km /\ rb ≠ m
 bb : mb ≠ x /\ mb ≠ sg /\ mb ≠ km /\ mb ≠ m
 mm : m ≠ x /\ m ≠ t /\ m ≠ sb /\ m ≠ sg /\ m ≠ kb /\ m ≠ km
section
variable {w W W' : World} {rb x t sb sg kb km mb m : Nat} {L L' : List (RefK × Wd)} {s s' : PSt}
theorem z2d {S : Nat -> Prop} (h : Below w.heap.size w W) (hM : Mod S W W') (hS : ∀ k, S k -> w.heap.size <= k) : Below w.heap.size w W' :=
 ⟨hM.os.trans h.os, hM.tape.trans h.tape, hM.output.trans h.output, Nat.le_trans h.size hM.size, fun j hj => (hM.block j (Nat.lt_of_lt_of_le hj h.size) (fun e => by have := hS j e; omega)).trans (h.block j hj)⟩
theorem PW.keep (h : PW w rb x t sb sg kb km mb m L s W) (hb : Below W.heap.size W W') : PW w rb x t sb sg kb km mb m L s W' :=
 ⟨z0b h.rb hb (lt_of_block h.rb), z0b h.mb hb (lt_of_block h.mb), h.mp.below hb h.mp.lt, h.tb.keep hb, h.tp.keep hb, h.md.trans (hb.mono h.md.size)⟩
theorem PW.tree (h : PW w rb x t sb sg kb km mb m L s W) (hd : PD w rb x t sb sg kb km mb m) {P' : List (Cel PNd)} (hT : z1c W' t sb sg kb km P' L' 0) (hM : Mod (TOwn sg km) W W') (e1 : s'.lt = s.lt) (e2 : s'.P = P') (e3 : s'.W = s.W) : PW w rb x t sb sg kb km mb m L' s' W' := by
 have n1 : ∀ k, k ≠ sg -> k ≠ km -> ¬ TOwn sg km k := fun k a b h => h.elim a b
 refine ⟨(hM.block rb (lt_of_block h.rb) (n1 _ hd.rr.2.1 hd.rr.2.2.1)).trans h.rb, (hM.block mb (lt_of_block h.mb) (n1 _ hd.bb.2.1 hd.bb.2.2.1)).trans h.mb, ?_, ?_, e2 ▸ hT, z2d h.md hM (fun k hk => hk.elim (fun e => by rw [e]; exact hd.lo.2.2.2.2.1) (fun e => by rw [e]; exact hd.lo.2.2.2.2.2.2.1))⟩
 ·rw [e3]; exact h.mp.mod hM (n1 _ hd.mm.2.2.2.1 hd.mm.2.2.2.2.2)
 ·rw [e1]; exact h.tb.mod hM (n1 _ hd.xx.2.2.1 hd.xx.2.2.2.2)
theorem PW.create (h : PW w rb x t sb sg kb km mb m L s W) (hd : PD w rb x t sb sg kb km mb m) {P' : List (Cel PNd)} {lt' : Nat -> Ten} (hX : TabAt 87 W' x t lt') (hT : z1c W' t sb sg kb km P' L' 0) (hM : Mod (COwn x sg km) W W') (e1 : s'.lt = lt') (e2 : s'.P = P') (e3 : s'.W = s.W) : PW w rb x t sb sg kb km mb m L' s' W' := by
 have n1 : ∀ k, k ≠ x -> k ≠ sg -> k ≠ km -> ¬ COwn x sg km k := fun k c a b h => h.elim c (fun h => h.elim a b)
 refine ⟨(hM.block rb (lt_of_block h.rb) (n1 _ hd.rr.1 hd.rr.2.1 hd.rr.2.2.1)).trans h.rb, (hM.block mb (lt_of_block h.mb) (n1 _ hd.bb.1 hd.bb.2.1 hd.bb.2.2.1)).trans h.mb, ?_, e1 ▸ hX, e2 ▸ hT, z2d h.md hM (fun k hk => hk.elim (fun e => by rw [e]; exact hd.lo.2.1) (fun hk => hk.elim (fun e => by rw [e]; exact hd.lo.2.2.2.2.1) (fun e => by rw [e]; exact hd.lo.2.2.2.2.2.2.1)))⟩
 rw [e3]; exact h.mp.mod hM (n1 _ hd.mm.1 hd.mm.2.2.2.1 hd.mm.2.2.2.2.2)
theorem PW.map (h : PW w rb x t sb sg kb km mb m L s W) (hd : PD w rb x t sb sg kb km mb m) {W2 : List (ByteArray × Bool)} (hP : z0q Value.string Value.bool W' m W2) (hM : Mod (· = m) W W') (e1 : s'.lt = s.lt) (e2 : s'.P = s.P) (e3 : s'.W = W2) : PW w rb x t sb sg kb km mb m L s' W' := by
 have hnr : NoRow W m := fun cs T fr hk => by
  obtain ⟨es, c, hm, _⟩ := h.mp
  rw [hm] at hk
  cases hk
 refine ⟨(hM.block rb (lt_of_block h.rb) hd.rr.2.2.2).trans h.rb, (hM.block mb (lt_of_block h.mb) hd.bb.2.2.2).trans h.mb, e3 ▸ hP, ?_, ?_, z2d h.md hM (fun k hk => by have : k = m := hk; rw [this]; exact hd.lo.2.2.2.2.2.2.2.2)⟩
 ·rw [e1]; exact h.tb.mod hM (fun e => hd.mm.1 e.symm)
 ·rw [e2]; exact h.tp.mod hM (fun k e => by have : k = m := e; rw [this]; exact hnr) (fun e => hd.mm.2.1 e.symm) (fun e => hd.mm.2.2.1 e.symm) (fun e => hd.mm.2.2.2.1 e.symm) (fun e => hd.mm.2.2.2.2.1 e.symm) (fun e => hd.mm.2.2.2.2.2 e.symm)
end
end Go.Proofs.YtgdmfledhhoedaaGreatDoor.T
namespace Go.Burg
open Go
structure VT (fx : List Nat) (tab : Nat -> Value) (F : Nat -> Value -> Prop) (iT : Nat) (P0 P1 : World -> Prop) (D : Nat -> Bool) (xs : Nat -> Value) (w : World) : Prop where
 v : ∀ j, D j = true -> j ∈ fx -> xs j = tab j
 f : ∀ j, D j = true -> F j (xs j)
 p : cond (D iT) (P1 w) (P0 w)
section
variable {fx : List Nat} {tab : Nat -> Value} {F : Nat -> Value -> Prop} {iT : Nat} {P0 P1 : World -> Prop} {D : Nat -> Bool} {xs : Nat -> Value} {w w' : World}
theorem VT.start (h : P0 w) : VT fx tab F iT P0 P1 (fun _ => false) (fun _ => undef) w := ⟨fun _ h => (by cases h), fun _ h => (by cases h), h⟩
theorem VT.step (h : VT fx tab F iT P0 P1 D xs w) {i : Nat} {u : Value} (hD : D i = false) (hu : i ∈ fx -> u = tab i) (hF : F i u) (hp : cond (D iT || iT == i) (P1 w') (P0 w')) : VT fx tab F iT P0 P1 (fun j => D j || j == i) (fun j => if j = i then u else xs j) w' := by
 refine ⟨fun j hj hf => ?_, fun j hj => ?_, hp⟩
 ·by_cases e : j = i
  ·subst e; simp only [if_pos]; exact hu hf
  ·simp only [if_neg e]; exact h.v j (by simpa [e] using hj) hf
 ·by_cases e : j = i
  ·subst e; simp only [if_pos]; exact hF
  ·simp only [if_neg e]; exact h.f j (by simpa [e] using hj)
theorem VT.calm (h : VT fx tab F iT P0 P1 D xs w) {i : Nat} {u : Value} (hD : D i = false) (h2 : i ≠ iT) (hu : i ∈ fx -> u = tab i) (hF : F i u) (k0 : P0 w -> P0 w') (k1 : P1 w -> P1 w') : VT fx tab F iT P0 P1 (fun j => D j || j == i) (fun j => if j = i then u else xs j) w' := by
 have e : (D iT || iT == i) = D iT := by
  have : (iT == i) = false := beq_false_of_ne (fun e => h2 e.symm)
  rw [this, Bool.or_false]
 refine h.step hD hu hF ?_
 rw [e]
 have := h.p
 cases hd : D iT <;> rw [hd] at this
 ·exact k0 this
 ·exact k1 this
theorem VT.turn (h : VT fx tab F iT P0 P1 D xs w) {u : Value} (hD : D iT = false) (hu : iT ∈ fx -> u = tab iT) (hF : F iT u) (k : P1 w') : VT fx tab F iT P0 P1 (fun j => D j || j == iT) (fun j => if j = iT then u else xs j) w' := by
 refine h.step hD hu hF ?_
 simp
 exact k
theorem VT.p0 (h : VT fx tab F iT P0 P1 D xs w) (hD : D iT = false) : P0 w := by have := h.p; rw [hD] at this; exact this
theorem VT.p1 (h : VT fx tab F iT P0 P1 D xs w) (hD : D iT = true) : P1 w := by have := h.p; rw [hD] at this; exact this
end
end Go.Burg
