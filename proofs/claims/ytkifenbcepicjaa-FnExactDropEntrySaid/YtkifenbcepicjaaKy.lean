/- What is proved here: plain facts on blocks of cells in a world: read, written, carried over a call; and keys, rows of 16 bytes, as blocks. No condition beyond those that each theorem states. Written by this session. -/
import Derived.Test.YtkifenbcepicjaaProg
import Derived.Below
import Derived.WalkKit
import Derived.LoopTactic
import Derived.Deep.QuietTactic
import Derived.BigQuiet
import Derived.Laws.Rows
import Derived.Deep.LoopGhost
import Derived.Tactics
import Derived.RowKit3
import Derived.Lib.Hide
import Derived.Deep.MidRow
import Derived.Deep.Upon
import Derived.Deep.RegionHeld3
import Derived.Lib.BitFns
import Derived.Laws.BitsAllLaws
namespace Go.Proofs.Ytkifenbcepicjaa.Ky
open Go.RowKit
set_option linter.unusedVariables false
set_option linter.unusedSimpArgs false
section
variable {w w1 w2 : World} {g t B : Nat} {o : Obj} {cs : Array Value}
theorem blt (h : w.heap[g]? = some o) : g < w.heap.size := (Array.getElem?_eq_some_iff.1 h).1
theorem bbelow (h : w.heap[g]? = some o) (hb : Below w.heap.size w w1) : w1.heap[g]? = some o := (hb.block g (blt h)).trans h
theorem bbelow2 (h : w.heap[g]? = some o) (hB : g < B) (hb : Below B w w1) : w1.heap[g]? = some o := (hb.block g hB).trans h
theorem balloc (h : w.heap[g]? = some o) (o' : Obj) : (w.alloc o').heap[g]? = some o := (Below.heap_alloc w o' g (blt h)).trans h
theorem bdrewN (h : w.heap[g]? = some o) (n : Nat) : (w.drewN n).heap[g]? = some o := h
theorem bset (h : w.heap[g]? = some (.cells cs t (0, 0))) (i : Nat) (u : Value) : (w.setCell ⟨g, i, none⟩ u).heap[g]? = some (.cells (cs.setIfInBounds i u) t (0, 0)) := by
  simp [World.setCell, Array.getElem?_modify, h]
theorem bfar (h : w.heap[g]? = some o) {p : Addr} (hp : g ≠ p.block) (u : Value) : (w.setCell p u).heap[g]? = some o := (Below.heap_setCell w p u g hp).trans h
theorem bcell (h : w.heap[g]? = some (.cells cs t (0, 0))) {i : Nat} {v : Value} (hv : cs[i]? = some v) : w.cell? ⟨g, i, none⟩ = some v := (cell_of_row w g i cs t (0, 0) h).trans hv
theorem bfrozen (h : w.heap[g]? = some (.cells cs t (0, 0))) (i : Nat) : w.frozen? ⟨g, i, none⟩ = false := by simp [World.frozen?, h]
theorem below_drewN (h : Below B w w1) (n : Nat) : Below B w (w1.drewN n) := ⟨h.os, h.tape, h.output, h.size, h.block⟩
theorem below_alloc (h : Below B w w1) (hB : B ≤ w.heap.size) (o : Obj) : Below B w (w1.alloc o) := h.alloc (Nat.le_trans hB h.size) o
theorem below_then (h : Below B w w1) (hB : B ≤ w.heap.size) (k : Below w1.heap.size w1 w2) : Below B w w2 := h.trans (k.mono (Nat.le_trans hB h.size))
theorem below_set (h : Below B w w1) {p : Addr} (hp : B ≤ p.block) (u : Value) : Below B w (w1.setCell p u) := h.setCell hp u
theorem below_sets (h : Below B w w1) (hg : B ≤ g) : ∀ (vs : List Value) (o : Nat), Below B w (w1.setCells g o vs) := by
  intro vs
  induction vs generalizing w1 with
  | nil => intro o; exact h
  | cons v vs ih => intro o; exact ih (below_set h (p := ⟨g, o, none⟩) hg v) (o + 1)
theorem bsets : ∀ (vs : List Value) (o : Nat) (w : World) (c0 : Array Value), w.heap[g]? = some (.cells c0 t (0, 0)) →
    ∃ c, (w.setCells g o vs).heap[g]? = some (.cells c t (0, 0)) ∧ c.size = c0.size ∧ ∀ j, j < c0.size → c[j]? = if o ≤ j ∧ j < o + vs.length then vs[j - o]? else c0[j]? := by
  intro vs
  induction vs with
  | nil => intro o w c0 h; exact ⟨c0, h, rfl, fun j _ => by rw [if_neg (by simp)]⟩
  | cons v vs ih =>
    intro o w c0 h
    obtain ⟨c, h1, h2, h3⟩ := ih (o + 1) _ _ (bset h o v)
    refine ⟨c, h1, by rw [h2]; simp, fun j hj => ?_⟩
    rw [h3 j (by simpa using hj)]
    by_cases hjo : j = o
    · subst hjo
      rw [if_neg (by omega), if_pos (by simp)]
      simp [hj]
    · by_cases hlt : o < j ∧ j < o + 1 + vs.length
      · rw [if_pos (by omega), if_pos (by simp; omega)]
        obtain ⟨m, rfl⟩ : ∃ m, j = o + 1 + m := ⟨j - (o + 1), by omega⟩
        rw [show o + 1 + m - o = m + 1 from by omega, show o + 1 + m - (o + 1) = m from by omega]
        rfl
      · rw [if_neg (by omega), if_neg (by simp; omega)]
        simp [Array.getElem?_setIfInBounds, Ne.symm hjo]
theorem bsetAll (h : w.heap[g]? = some (.cells cs t (0, 0))) {c1 : Array Value} (hs : c1.size = cs.size) : (w.setCells g 0 c1.toList).heap[g]? = some (.cells c1 t (0, 0)) := by
  obtain ⟨c, h1, h2, h3⟩ := bsets c1.toList 0 w cs h
  rw [h1]
  have : c = c1 := by
    apply Array.ext_getElem?
    intro j
    by_cases hj : j < cs.size
    · rw [h3 j hj, if_pos ⟨Nat.zero_le _, by simp; omega⟩]
      simp
    · rw [Array.getElem?_eq_none (by omega), Array.getElem?_eq_none (by omega)]
  rw [this]
theorem bsetsFar (h : w.heap[g]? = some o) {g' : Nat} (hne : g ≠ g') (o' : Nat) (vs : List Value) : (w.setCells g' o' vs).heap[g]? = some o := (World.heap_setCells_other w g' o' vs (blt h) hne).trans h
theorem bthere (h : w.heap[g]? = some (.cells cs t (0, 0))) {n : Nat} (hn : n = cs.size) : w.there g 0 n := by
  intro j hj
  rw [Nat.zero_add]
  refine ⟨?_, bfrozen h j⟩
  rw [cell_of_row w g j cs t (0, 0) h]
  simp [show j < cs.size by omega]
end
/-- Bytes, as an array's cells. -/
def bs (l : List Int) : Array Value := (l.map (Value.int .u8)).toArray
theorem bs_size (l : List Int) : (bs l).size = l.length := by simp [bs]
theorem bs_get {l : List Int} {k : Nat} {x : Int} (h : l[k]? = some x) : (bs l)[k]? = some (.int .u8 x) := by simp [bs, h]
theorem bs_one (l : List Int) : (bs l).all (·.oneCell') = true := by
  refine all_oneCell_toArray fun v hv => ?_
  obtain ⟨x, _, rfl⟩ := List.mem_map.1 hv
  rfl
theorem bs_set (l : List Int) (k : Nat) (x : Int) : (bs l).setIfInBounds k (.int .u8 x) = bs (l.set k x) := by simp [bs, List.map_set]
theorem bs_zero : (#[.int .u8 0, .int .u8 0, .int .u8 0, .int .u8 0, .int .u8 0, .int .u8 0, .int .u8 0, .int .u8 0, .int .u8 0, .int .u8 0, .int .u8 0, .int .u8 0, .int .u8 0, .int .u8 0, .int .u8 0, .int .u8 0] : Array Value) = bs (List.replicate 16 0) := rfl
theorem bs_inj {a b : List Int} (h : bs a = bs b) : a = b := by
  have h1 : a.map (Value.int .u8) = b.map (Value.int .u8) := by simpa [bs] using h
  exact (List.map_inj_right (fun x y e => by injection e)).1 h1
/-- A key: sixteen bytes. -/
def Key (l : List Int) : Prop := l.length = 16
theorem key0 : Key (List.replicate 16 0) := rfl
/-- The reference's order of keys: the first place that differs. -/
def lessF : List Int → List Int → Bool
  | x :: xs, y :: ys => if x = y then lessF xs ys else decide (x < y)
  | _, _ => false
/-- How two keys compare. -/
def cmpF : List Int → List Int → Int
  | [], [] => 0
  | [], _ :: _ => -1
  | _ :: _, [] => 1
  | x :: xs, y :: ys => if x < y then -1 else if y < x then 1 else cmpF xs ys
theorem cmp_less : ∀ (a b : List Int), a.length = b.length → decide (cmpF a b < 0) = lessF a b
  | [], [], _ => rfl
  | [], _ :: _, h => by simp at h
  | _ :: _, [], h => by simp at h
  | x :: xs, y :: ys, h => by
    have ih := cmp_less xs ys (by simpa using h)
    unfold cmpF lessF
    by_cases e : x = y
    · subst e
      rw [if_neg (by omega), if_neg (by omega), if_pos rfl]
      exact ih
    · rw [if_neg e]
      by_cases l : x < y
      · rw [if_pos l]; simp [l]
      · rw [if_neg l, if_pos (by omega)]; simp [l]
/-- The next key, from place k - 1 on backwards. -/
def nextF : Nat → List Int → Option (List Int)
  | 0, _ => none
  | k + 1, l => if l.getD k 0 < 255 then some (l.set k (l.getD k 0 + 1)) else nextF k (l.set k 0)
/-- The bits in which two rows of bytes begin alike. -/
def commonF : List Int → List Int → Nat
  | x :: xs, y :: ys => if x = y then 8 + commonF xs ys else 8 - Go.Lib.bitLen (x.toNat ^^^ y.toNat)
  | _, _ => 0
/-- The first n of what g tells. -/
def keyO (g : Nat → Option Int) : Nat → Option (List Int)
  | 0 => some []
  | n + 1 => (keyO g n).bind fun l => (g n).bind fun x => some (l ++ [x])
theorem keyO_spec {g : Nat → Option Int} : ∀ {n : Nat} {r : List Int}, keyO g n = some r → r.length = n ∧ ∀ k, k < n → ∃ x, r[k]? = some x ∧ g k = some x
  | 0, r, h => by
    obtain rfl := Option.some.inj h
    exact ⟨rfl, fun k hk => absurd hk (by omega)⟩
  | n + 1, r, h => by
    obtain ⟨l, h1, h⟩ := Option.bind_eq_some_iff.mp h
    obtain ⟨x, h2, h⟩ := Option.bind_eq_some_iff.mp h
    obtain rfl := Option.some.inj h
    obtain ⟨h3, h4⟩ := keyO_spec h1
    refine ⟨by simp [h3], fun k hk => ?_⟩
    by_cases hkn : k < n
    · obtain ⟨y, h5, h6⟩ := h4 k hkn
      exact ⟨y, by rw [List.getElem?_append_left (by omega)]; exact h5, h6⟩
    · obtain rfl : k = n := by omega
      exact ⟨x, by rw [← h3]; simp, h2⟩
theorem of_cond {α : Type} {c : Prop} [Decidable c] {x r : α} (h : (if c then some x else none) = some r) : c ∧ x = r := by
  by_cases hc : c
  · rw [if_pos hc] at h; exact ⟨hc, Option.some.inj h⟩
  · rw [if_neg hc] at h; cases h
theorem of_condO {α : Type} {c : Prop} [Decidable c] {x : Option α} {r : α} (h : (if c then x else none) = some r) : c ∧ x = some r := by
  by_cases hc : c
  · rw [if_pos hc] at h; exact ⟨hc, h⟩
  · rw [if_neg hc] at h; cases h
section
variable {P : Program}
theorem wpList_arrayPtr {ops : Array Oper} {rest : List Oper} {op : Oper} {a : Act} {w : World} {Q : Exit → Act → World → Prop} (hgd : op.guard = none) (ty : TypeId) (x : Operand) (ho : op.op = .sliceToArrayPointer ty x)
    (A : Option Addr) (n c m e : Nat) (hx : a.eval x = .slice A n c) (hu : P.underlying ty = some (.array m e)) (hn : m ≤ n) (h : wpList P ops Q rest (a.put op.dst (.pointer A)) w) : wpList P ops Q (op :: rest) a w := by
  refine wpList_plain hgd fun _ hK => ?_
  unfold Oper.wp execOp
  have h1 : (Instr.arrayAt ty (.slice A n c)).run P w = .ok (.pointer A) w := by
    simp only [Instr.arrayAt, Sem.run_bind, run_underlying hu w, Result.andThen_ok]
    rw [if_neg (by omega)]
    rfl
  simp only [ho, hx, Sem.run_bind, Result.andThen_ok, h1]
  exact hK _ _ h
end
end Go.Proofs.Ytkifenbcepicjaa.Ky
