/- What is proved here: what each Go function on keys comes to, and that it leaves alone all that lay in memory. No condition beyond those that each theorem states. Written by this session. -/
import Derived.Test.YtkifenbcepicjaaProg
import Derived.Below
import Derived.WalkKit
import Derived.LoopTactic
import Derived.Deep.QuietTactic
import Derived.BigQuiet
import Derived.Laws.Rows
import Derived.Deep.LoopGhost
import Derived.Tactics
import Derived.RowKit3
import Derived.Lib.Hide
import Derived.Deep.MidRow
import Derived.Deep.Upon
import Derived.Deep.RegionHeld3
import Derived.Lib.BitFns
import Derived.Laws.BitsAllLaws
import Derived.Lib.Bytealg
import Derived.Lib.BytesEntry
import Derived.Laws.Externs
import Derived.Deep.Cut
import Derived.Shelf.Small.Bits
import Derived.Laws.BitsLemmas
namespace Go.Proofs.Ytkifenbcepicjaa.Ky
open Go.RowKit
set_option linter.unusedVariables false
set_option linter.unusedSimpArgs false
section
variable {w w1 w2 : World} {g t B : Nat} {o : Obj} {cs : Array Value}
theorem blt (h : w.heap[g]? = some o) : g < w.heap.size := (Array.getElem?_eq_some_iff.1 h).1
theorem bbelow (h : w.heap[g]? = some o) (hb : Below w.heap.size w w1) : w1.heap[g]? = some o := (hb.block g (blt h)).trans h
theorem bbelow2 (h : w.heap[g]? = some o) (hB : g < B) (hb : Below B w w1) : w1.heap[g]? = some o := (hb.block g hB).trans h
theorem balloc (h : w.heap[g]? = some o) (o' : Obj) : (w.alloc o').heap[g]? = some o := (Below.heap_alloc w o' g (blt h)).trans h
theorem bdrewN (h : w.heap[g]? = some o) (n : Nat) : (w.drewN n).heap[g]? = some o := h
theorem bset (h : w.heap[g]? = some (.cells cs t (0, 0))) (i : Nat) (u : Value) : (w.setCell ⟨g, i, none⟩ u).heap[g]? = some (.cells (cs.setIfInBounds i u) t (0, 0)) := by
  simp [World.setCell, Array.getElem?_modify, h]
theorem bfar (h : w.heap[g]? = some o) {p : Addr} (hp : g ≠ p.block) (u : Value) : (w.setCell p u).heap[g]? = some o := (Below.heap_setCell w p u g hp).trans h
theorem bcell (h : w.heap[g]? = some (.cells cs t (0, 0))) {i : Nat} {v : Value} (hv : cs[i]? = some v) : w.cell? ⟨g, i, none⟩ = some v := (cell_of_row w g i cs t (0, 0) h).trans hv
theorem bfrozen (h : w.heap[g]? = some (.cells cs t (0, 0))) (i : Nat) : w.frozen? ⟨g, i, none⟩ = false := by simp [World.frozen?, h]
theorem below_drewN (h : Below B w w1) (n : Nat) : Below B w (w1.drewN n) := ⟨h.os, h.tape, h.output, h.size, h.block⟩
theorem below_alloc (h : Below B w w1) (hB : B ≤ w.heap.size) (o : Obj) : Below B w (w1.alloc o) := h.alloc (Nat.le_trans hB h.size) o
theorem below_then (h : Below B w w1) (hB : B ≤ w.heap.size) (k : Below w1.heap.size w1 w2) : Below B w w2 := h.trans (k.mono (Nat.le_trans hB h.size))
theorem below_set (h : Below B w w1) {p : Addr} (hp : B ≤ p.block) (u : Value) : Below B w (w1.setCell p u) := h.setCell hp u
theorem below_sets (h : Below B w w1) (hg : B ≤ g) : ∀ (vs : List Value) (o : Nat), Below B w (w1.setCells g o vs) := by
  intro vs
  induction vs generalizing w1 with
  | nil => intro o; exact h
  | cons v vs ih => intro o; exact ih (below_set h (p := ⟨g, o, none⟩) hg v) (o + 1)
theorem bsets : ∀ (vs : List Value) (o : Nat) (w : World) (c0 : Array Value), w.heap[g]? = some (.cells c0 t (0, 0)) →
    ∃ c, (w.setCells g o vs).heap[g]? = some (.cells c t (0, 0)) ∧ c.size = c0.size ∧ ∀ j, j < c0.size → c[j]? = if o ≤ j ∧ j < o + vs.length then vs[j - o]? else c0[j]? := by
  intro vs
  induction vs with
  | nil => intro o w c0 h; exact ⟨c0, h, rfl, fun j _ => by rw [if_neg (by simp)]⟩
  | cons v vs ih =>
    intro o w c0 h
    obtain ⟨c, h1, h2, h3⟩ := ih (o + 1) _ _ (bset h o v)
    refine ⟨c, h1, by rw [h2]; simp, fun j hj => ?_⟩
    rw [h3 j (by simpa using hj)]
    by_cases hjo : j = o
    · subst hjo
      rw [if_neg (by omega), if_pos (by simp)]
      simp [hj]
    · by_cases hlt : o < j ∧ j < o + 1 + vs.length
      · rw [if_pos (by omega), if_pos (by simp; omega)]
        obtain ⟨m, rfl⟩ : ∃ m, j = o + 1 + m := ⟨j - (o + 1), by omega⟩
        rw [show o + 1 + m - o = m + 1 from by omega, show o + 1 + m - (o + 1) = m from by omega]
        rfl
      · rw [if_neg (by omega), if_neg (by simp; omega)]
        simp [Array.getElem?_setIfInBounds, Ne.symm hjo]
theorem bsetAll (h : w.heap[g]? = some (.cells cs t (0, 0))) {c1 : Array Value} (hs : c1.size = cs.size) : (w.setCells g 0 c1.toList).heap[g]? = some (.cells c1 t (0, 0)) := by
  obtain ⟨c, h1, h2, h3⟩ := bsets c1.toList 0 w cs h
  rw [h1]
  have : c = c1 := by
    apply Array.ext_getElem?
    intro j
    by_cases hj : j < cs.size
    · rw [h3 j hj, if_pos ⟨Nat.zero_le _, by simp; omega⟩]
      simp
    · rw [Array.getElem?_eq_none (by omega), Array.getElem?_eq_none (by omega)]
  rw [this]
theorem bsetsFar (h : w.heap[g]? = some o) {g' : Nat} (hne : g ≠ g') (o' : Nat) (vs : List Value) : (w.setCells g' o' vs).heap[g]? = some o := (World.heap_setCells_other w g' o' vs (blt h) hne).trans h
theorem bthere (h : w.heap[g]? = some (.cells cs t (0, 0))) {n : Nat} (hn : n = cs.size) : w.there g 0 n := by
  intro j hj
  rw [Nat.zero_add]
  refine ⟨?_, bfrozen h j⟩
  rw [cell_of_row w g j cs t (0, 0) h]
  simp [show j < cs.size by omega]
end
/-- Bytes, as an array's cells. -/
def bs (l : List Int) : Array Value := (l.map (Value.int .u8)).toArray
theorem bs_size (l : List Int) : (bs l).size = l.length := by simp [bs]
theorem bs_get {l : List Int} {k : Nat} {x : Int} (h : l[k]? = some x) : (bs l)[k]? = some (.int .u8 x) := by simp [bs, h]
theorem bs_one (l : List Int) : (bs l).all (·.oneCell') = true := by
  refine all_oneCell_toArray fun v hv => ?_
  obtain ⟨x, _, rfl⟩ := List.mem_map.1 hv
  rfl
theorem bs_set (l : List Int) (k : Nat) (x : Int) : (bs l).setIfInBounds k (.int .u8 x) = bs (l.set k x) := by simp [bs, List.map_set]
theorem bs_zero : (#[.int .u8 0, .int .u8 0, .int .u8 0, .int .u8 0, .int .u8 0, .int .u8 0, .int .u8 0, .int .u8 0, .int .u8 0, .int .u8 0, .int .u8 0, .int .u8 0, .int .u8 0, .int .u8 0, .int .u8 0, .int .u8 0] : Array Value) = bs (List.replicate 16 0) := rfl
theorem bs_inj {a b : List Int} (h : bs a = bs b) : a = b := by
  have h1 : a.map (Value.int .u8) = b.map (Value.int .u8) := by simpa [bs] using h
  exact (List.map_inj_right (fun x y e => by injection e)).1 h1
/-- A key: sixteen bytes. -/
def Key (l : List Int) : Prop := l.length = 16
theorem key0 : Key (List.replicate 16 0) := rfl
/-- The reference's order of keys: the first place that differs. -/
def lessF : List Int → List Int → Bool
  | x :: xs, y :: ys => if x = y then lessF xs ys else decide (x < y)
  | _, _ => false
/-- How two keys compare. -/
def cmpF : List Int → List Int → Int
  | [], [] => 0
  | [], _ :: _ => -1
  | _ :: _, [] => 1
  | x :: xs, y :: ys => if x < y then -1 else if y < x then 1 else cmpF xs ys
theorem cmp_less : ∀ (a b : List Int), a.length = b.length → decide (cmpF a b < 0) = lessF a b
  | [], [], _ => rfl
  | [], _ :: _, h => by simp at h
  | _ :: _, [], h => by simp at h
  | x :: xs, y :: ys, h => by
    have ih := cmp_less xs ys (by simpa using h)
    unfold cmpF lessF
    by_cases e : x = y
    · subst e
      rw [if_neg (by omega), if_neg (by omega), if_pos rfl]
      exact ih
    · rw [if_neg e]
      by_cases l : x < y
      · rw [if_pos l]; simp [l]
      · rw [if_neg l, if_pos (by omega)]; simp [l]
/-- The next key, from place k - 1 on backwards. -/
def nextF : Nat → List Int → Option (List Int)
  | 0, _ => none
  | k + 1, l => if l.getD k 0 < 255 then some (l.set k (l.getD k 0 + 1)) else nextF k (l.set k 0)
/-- The bits in which two rows of bytes begin alike. -/
def commonF : List Int → List Int → Nat
  | x :: xs, y :: ys => if x = y then 8 + commonF xs ys else 8 - Go.Lib.bitLen (x.toNat ^^^ y.toNat)
  | _, _ => 0
/-- The first n of what g tells. -/
def keyO (g : Nat → Option Int) : Nat → Option (List Int)
  | 0 => some []
  | n + 1 => (keyO g n).bind fun l => (g n).bind fun x => some (l ++ [x])
theorem keyO_spec {g : Nat → Option Int} : ∀ {n : Nat} {r : List Int}, keyO g n = some r → r.length = n ∧ ∀ k, k < n → ∃ x, r[k]? = some x ∧ g k = some x
  | 0, r, h => by
    obtain rfl := Option.some.inj h
    exact ⟨rfl, fun k hk => absurd hk (by omega)⟩
  | n + 1, r, h => by
    obtain ⟨l, h1, h⟩ := Option.bind_eq_some_iff.mp h
    obtain ⟨x, h2, h⟩ := Option.bind_eq_some_iff.mp h
    obtain rfl := Option.some.inj h
    obtain ⟨h3, h4⟩ := keyO_spec h1
    refine ⟨by simp [h3], fun k hk => ?_⟩
    by_cases hkn : k < n
    · obtain ⟨y, h5, h6⟩ := h4 k hkn
      exact ⟨y, by rw [List.getElem?_append_left (by omega)]; exact h5, h6⟩
    · obtain rfl : k = n := by omega
      exact ⟨x, by rw [← h3]; simp, h2⟩
theorem of_cond {α : Type} {c : Prop} [Decidable c] {x r : α} (h : (if c then some x else none) = some r) : c ∧ x = r := by
  by_cases hc : c
  · rw [if_pos hc] at h; exact ⟨hc, Option.some.inj h⟩
  · rw [if_neg hc] at h; cases h
theorem of_condO {α : Type} {c : Prop} [Decidable c] {x : Option α} {r : α} (h : (if c then x else none) = some r) : c ∧ x = some r := by
  by_cases hc : c
  · rw [if_pos hc] at h; exact ⟨hc, h⟩
  · rw [if_neg hc] at h; cases h
section
variable {P : Program}
theorem wpList_arrayPtr {ops : Array Oper} {rest : List Oper} {op : Oper} {a : Act} {w : World} {Q : Exit → Act → World → Prop} (hgd : op.guard = none) (ty : TypeId) (x : Operand) (ho : op.op = .sliceToArrayPointer ty x)
    (A : Option Addr) (n c m e : Nat) (hx : a.eval x = .slice A n c) (hu : P.underlying ty = some (.array m e)) (hn : m ≤ n) (h : wpList P ops Q rest (a.put op.dst (.pointer A)) w) : wpList P ops Q (op :: rest) a w := by
  refine wpList_plain hgd fun _ hK => ?_
  unfold Oper.wp execOp
  have h1 : (Instr.arrayAt ty (.slice A n c)).run P w = .ok (.pointer A) w := by
    simp only [Instr.arrayAt, Sem.run_bind, run_underlying hu w, Result.andThen_ok]
    rw [if_neg (by omega)]
    rfl
  simp only [ho, hx, Sem.run_bind, Result.andThen_ok, h1]
  exact hK _ _ h
end
end Go.Proofs.Ytkifenbcepicjaa.Ky
namespace Go.Proofs.Ytkifenbcepicjaa.Ky
open Go.RowKit
set_option linter.unusedVariables false
set_option linter.unusedSimpArgs false
theorem hK : Try.prog.underlying 26 = some (.array 16 5) := Try.underlying26
theorem hKi : (Try.prog.info? 26).map (·.size) = some 16 := by kernel_rfl
theorem hKs {l : List Int} (h : l.length = 16) : (Try.prog.info? 26).map (·.size) = some (bs l).size := by rw [bs_size, h]; exact hKi
theorem hKk {l : List Int} (h : Key l) : (Try.prog.info? 26).map (·.size) = some (bs l).size := hKs h
theorem size_key {l m : List Int} (h : Key l) (k : Key m) : (bs l).size = (bs m).size := by rw [bs_size, bs_size, h, k]
set_option maxHeartbeats 400000 in
set_option maxRecDepth 100000 in
theorem specLess (a b : List Int) (ha : a.length = 16) (hb : b.length = 16) (w : World) :
    Calls Try.prog 31 #[.agg (bs a), .agg (bs b)] w fun e w' => e = .returned (.bool (lessF a b)) ∧ Below w.heap.size w w' := by
  have HA : Hid (((w.alloc (Obj.cells (bs a) 26)).alloc (Obj.cells (bs b) 26)).heap[w.heap.size]? = some (.cells (bs a) 26 (0, 0))) := heap_alloc2_old _ _ _
  have HB : Hid (((w.alloc (Obj.cells (bs a) 26)).alloc (Obj.cells (bs b) 26)).heap[w.heap.size + 1]? = some (.cells (bs b) 26 (0, 0))) := heap_alloc2_new _ _ _
  have HW : Hid (Below w.heap.size w ((w.alloc (Obj.cells (bs a) 26)).alloc (Obj.cells (bs b) 26))) := ((Below.refl _ _).alloc (Nat.le_refl _) _).alloc (by simp) _
  have HL := Lib.hid ha
  have HM := Lib.hid hb
  clear ha hb
  go_enter Try.func31, Try.ntmps31
  go_wp2
  go_loopg [5] 16 (fun gg s5 wr => ∃ k : Nat, s5 = .int .i64 k ∧ Hid (k ≤ 16 ∧ 16 - k ≤ gg) ∧ Hid (wr.heap[w.heap.size]? = some (.cells (bs a) 26 (0, 0))) ∧ Hid (wr.heap[w.heap.size + 1]? = some (.cells (bs b) 26 (0, 0))) ∧ Hid (Below w.heap.size w wr) ∧ Hid (lessF (a.drop k) (b.drop k) = lessF a b))
  case atStart => exact ⟨0, rfl, Lib.hid (by omega), HA, HB, HW, Lib.hid rfl⟩
  case round =>
    clear HA HB HW
    obtain ⟨k, rfl, HK, HA, HB, HW, HR⟩ := hrel
    by_cases hlt : k < 16
    · obtain ⟨x, hx⟩ : ∃ x, a[k]? = some x := ⟨_, List.getElem?_eq_getElem (by have := HL.out; omega)⟩
      obtain ⟨y, hy⟩ : ∃ y, b[k]? = some y := ⟨_, List.getElem?_eq_getElem (by have := HM.out; omega)⟩
      have cx := bcell HA.out (bs_get hx)
      have cy := bcell HB.out (bs_get hy)
      have HS : Hid ((if x = y then lessF (a.drop (k + 1)) (b.drop (k + 1)) else decide (x < y)) = lessF a b) := by
        have h := HR.out
        obtain ⟨hka, hx⟩ := List.getElem?_eq_some_iff.1 hx
        obtain ⟨hkb, hy⟩ := List.getElem?_eq_some_iff.1 hy
        rw [List.drop_eq_getElem_cons hka, List.drop_eq_getElem_cons hkb, hx, hy] at h
        exact h
      clear hx hy HR
      have k0 : (0 : Int) ≤ (k : Int) := by omega
      have k1 : (k : Int) < 16 := by omega
      by_cases hxy : x = y
      · subst hxy
        rw [if_pos rfl] at HS
        go_wp2
        go_quiet (fail)
        go_wp2
        go_roundg (16 - (k + 1))
        case measure => have := HK.out; omega
        case rel => exact ⟨k + 1, by go_num, Lib.hid (by have := HK.out; omega), HA, HB, Lib.hid (below_drewN HW.out _), HS⟩
      · rw [if_neg hxy] at HS
        have hne : (x == y) = false := by simpa using hxy
        go_wp2
        go_quiet (fail)
        go_wp2
        go_quiet (fail)
        go_wp2
        go_ret
        exact ⟨by rw [← HS.out]; rfl, below_drewN (below_drewN HW.out _) _⟩
    · have hd : a.drop k = [] := List.drop_eq_nil_of_le (by have := HL.out; omega)
      have HS : Hid (false = lessF a b) := by have h := HR.out; rw [hd] at h; exact h
      have c0 : decide ((k : Int) < 16) = false := decide_eq_false (by omega)
      clear hd HR hlt
      go_wp2
      go_ret
      exact ⟨by rw [← HS.out]; rfl, HW.out⟩
set_option maxHeartbeats 400000 in
set_option maxRecDepth 100000 in
theorem eqKey (a b : List Int) (ha : a.length = 16) (hb : b.length = 16) (w : World) :
    Calls Try.prog 70 #[.agg (bs a), .agg (bs b)] w fun e w' => e = .returned (.bool (decide (a = b))) ∧ Below w.heap.size w w' := by
  have HA : Hid (((w.alloc (Obj.cells (bs a) 26)).alloc (Obj.cells (bs b) 26)).heap[w.heap.size]? = some (.cells (bs a) 26 (0, 0))) := heap_alloc2_old _ _ _
  have HB : Hid (((w.alloc (Obj.cells (bs a) 26)).alloc (Obj.cells (bs b) 26)).heap[w.heap.size + 1]? = some (.cells (bs b) 26 (0, 0))) := heap_alloc2_new _ _ _
  have HW : Hid (Below w.heap.size w ((w.alloc (Obj.cells (bs a) 26)).alloc (Obj.cells (bs b) 26))) := ((Below.refl _ _).alloc (Nat.le_refl _) _).alloc (by simp) _
  have HL := Lib.hid ha
  have HM := Lib.hid hb
  clear ha hb
  go_enter Try.func70, Try.ntmps70
  go_wp2
  go_loopg [5] 16 (fun gg s5 wr => ∃ k : Nat, s5 = .int .i64 k ∧ Hid (k ≤ 16 ∧ 16 - k ≤ gg) ∧ Hid (wr.heap[w.heap.size]? = some (.cells (bs a) 26 (0, 0))) ∧ Hid (wr.heap[w.heap.size + 1]? = some (.cells (bs b) 26 (0, 0))) ∧ Hid (Below w.heap.size w wr) ∧ Hid (a.take k = b.take k))
  case atStart => exact ⟨0, rfl, Lib.hid (by omega), HA, HB, HW, Lib.hid rfl⟩
  case round =>
    clear HA HB HW
    obtain ⟨k, rfl, HK, HA, HB, HW, HR⟩ := hrel
    by_cases hlt : k < 16
    · obtain ⟨x, hx⟩ : ∃ x, a[k]? = some x := ⟨_, List.getElem?_eq_getElem (by have := HL.out; omega)⟩
      obtain ⟨y, hy⟩ : ∃ y, b[k]? = some y := ⟨_, List.getElem?_eq_getElem (by have := HM.out; omega)⟩
      have cx := bcell HA.out (bs_get hx)
      have cy := bcell HB.out (bs_get hy)
      have HS : Hid (x = y → a.take (k + 1) = b.take (k + 1)) := Lib.hid fun e => by
        rw [List.take_add_one, List.take_add_one, HR.out, hx, hy, e]
      have HT : Hid (x ≠ y → decide (a = b) = false) := Lib.hid fun e => decide_eq_false (by
        rintro rfl
        rw [hx] at hy
        exact e (Option.some.inj hy))
      clear hx hy HR
      have k0 : (0 : Int) ≤ (k : Int) := by omega
      have k1 : (k : Int) < 16 := by omega
      by_cases hxy : x = y
      · have HS2 := Lib.hid (HS.out hxy)
        clear HT HS
        subst hxy
        go_wp2
        go_quiet (fail)
        go_wp2
        go_roundg (16 - (k + 1))
        case measure => have := HK.out; omega
        case rel => exact ⟨k + 1, by go_num, Lib.hid (by have := HK.out; omega), HA, HB, Lib.hid (below_drewN HW.out _), HS2⟩
      · have HT2 := Lib.hid (HT.out hxy)
        clear HS HT
        have hne : (x == y) = false := by simpa using hxy
        go_wp2
        go_quiet (fail)
        go_wp2
        go_ret
        exact ⟨by rw [HT2.out]; rfl, below_drewN HW.out _⟩
    · have HS : Hid (decide (a = b) = true) := Lib.hid (decide_eq_true (by
        have h := HR.out
        rwa [List.take_of_length_le (by have := HL.out; omega), List.take_of_length_le (by have := HM.out; omega)] at h))
      have c0 : decide ((k : Int) < 16) = false := decide_eq_false (by omega)
      clear HR hlt
      go_wp2
      go_ret
      exact ⟨by rw [HS.out]; rfl, HW.out⟩
set_option maxHeartbeats 400000 in
set_option maxRecDepth 100000 in
theorem toKey (a : List Int) (ha : a.length = 16) (w : World) :
    Calls Try.prog 11 #[.agg (bs a)] w fun e w' => e = .returned (.agg (bs a)) ∧ Below w.heap.size w w' := by
  have HI := Lib.hid (hKs ha)
  have HL := Lib.hid ha
  clear ha
  go_enter Try.func11, Try.ntmps11
  go_wp2
  rw [bs_zero]
  obtain ⟨W, hW⟩ : ∃ W, W = ((w.alloc (Obj.cells (bs a) 26)).alloc (Obj.cells (bs (List.replicate 16 0)) 26)).alloc (Obj.cells (bs (List.replicate 16 0)) 26) := ⟨_, rfl⟩
  rw [← hW]
  have HA : Hid (W.heap[w.heap.size]? = some (.cells (bs a) 26 (0, 0))) := by subst hW; exact balloc (balloc (heap_alloc_new _ _) _) _
  have HB : Hid (W.heap[w.heap.size + 1]? = some (.cells (bs (List.replicate 16 0)) 26 (0, 0))) := by subst hW; exact balloc (heap_alloc2_new _ _ _) _
  have HC : Hid (W.heap[w.heap.size + 1 + 1]? = some (.cells (bs (List.replicate 16 0)) 26 (0, 0))) := by
    subst hW
    have h := heap_alloc_new ((w.alloc (Obj.cells (bs a) 26)).alloc (Obj.cells (bs (List.replicate 16 0)) 26)) (Obj.cells (bs (List.replicate 16 0)) 26)
    rw [show (((w.alloc (Obj.cells (bs a) 26)).alloc (Obj.cells (bs (List.replicate 16 0)) 26))).heap.size = w.heap.size + 1 + 1 from by simp] at h
    exact h
  have HW : Hid (Below w.heap.size w W) := by subst hW; exact below_alloc (below_alloc (below_alloc (Below.refl _ _) (Nat.le_refl _) _) (Nat.le_refl _) _) (Nat.le_refl _) _
  clear hW
  go_loopg [4] 16 (fun gg s4 wr => ∃ (k : Nat) (l : List Int), s4 = .int .i64 k ∧ Hid (k ≤ 16 ∧ 16 - k ≤ gg) ∧ Hid (wr.heap[w.heap.size]? = some (.cells (bs a) 26 (0, 0))) ∧ Hid (wr.heap[w.heap.size + 1]? = some (.cells (bs (List.replicate 16 0)) 26 (0, 0))) ∧ Hid (wr.heap[w.heap.size + 1 + 1]? = some (.cells (bs l) 26 (0, 0))) ∧ Hid (Below w.heap.size w wr) ∧ Hid (l.length = 16 ∧ l.take k = a.take k))
  case atStart => exact ⟨0, _, rfl, Lib.hid (by omega), HA, HB, HC, HW, Lib.hid ⟨rfl, rfl⟩⟩
  case round =>
    clear HA HB HC HW
    obtain ⟨k, l, rfl, HK, HA, HB, HC, HW, HR⟩ := hrel
    by_cases hlt : k < 16
    · obtain ⟨x, hx⟩ : ∃ x, a[k]? = some x := ⟨_, List.getElem?_eq_getElem (by have := HL.out; omega)⟩
      obtain ⟨y, hy⟩ : ∃ y, l[k]? = some y := ⟨_, List.getElem?_eq_getElem (by have := HR.out.1; omega)⟩
      have cx := bcell HA.out (bs_get hx)
      have cy := bcell HC.out (bs_get hy)
      have fy := bfrozen HC.out k
      have HS : Hid ((l.set k x).length = 16 ∧ (l.set k x).take (k + 1) = a.take (k + 1)) := by
        refine Lib.hid ⟨by rw [List.length_set]; exact HR.out.1, ?_⟩
        rw [List.take_add_one, List.take_add_one, hx, List.getElem?_set_self (by have := HR.out.1; omega), List.take_set_of_le (Nat.le_refl _), HR.out.2]
      have HN : Hid (wr.setCell ⟨w.heap.size + 1 + 1, k, none⟩ (.int .u8 x) = wr.setCell ⟨w.heap.size + 1 + 1, k, none⟩ (.int .u8 x)) := rfl
      clear hx hy HR
      have k0 : (0 : Int) ≤ (k : Int) := by omega
      have k1 : (k : Int) < 16 := by omega
      go_wp2
      go_roundg (16 - (k + 1))
      case measure => have := HK.out; omega
      case rel => exact ⟨k + 1, l.set k x, by go_num, Lib.hid (by have := HK.out; omega), Lib.hid (bfar HA.out (by simp; omega) _), Lib.hid (bfar HB.out (by simp) _), Lib.hid (by rw [← bs_set]; exact bset HC.out k _), Lib.hid (below_set HW.out (by simp; omega) _), HS⟩
    · have HS : Hid (l = a) := by
        have h := HR.out.2
        rwa [List.take_of_length_le (by have := HR.out.1; omega), List.take_of_length_le (by have := HL.out; omega)] at h
      have c0 : decide ((k : Int) < 16) = false := decide_eq_false (by omega)
      obtain rfl := HS.out
      clear HR hlt HS
      go_wp2_with (first | (refine wpList_load_row rfl 26 _ rfl (w.heap.size + 1 + 1) rfl 26 (bs l) (0, 0) _ HC.out hK rfl HI.out ?_) | (refine wpList_store_mid rfl 26 _ _ rfl (w.heap.size + 1) 0 (bs l) rfl rfl (bthere HB.out (by rw [bs_size, bs_size, HL.out]; rfl)) HI.out (bs_one _) ?_))
      have HB := Lib.hid (bsetAll HB.out (c1 := bs l) (by rw [bs_size, bs_size, HL.out]; rfl))
      refine bodyPost_ret (results_cell_row rfl _ _ (w.heap.size + 1) 26 (bs l) (0, 0) _ rfl HB.out hK rfl HI.out) rfl ⟨rfl, below_sets HW.out (by omega) _ _⟩
end Go.Proofs.Ytkifenbcepicjaa.Ky
namespace Go.Proofs.Ytkifenbcepicjaa.Ky
open Go.RowKit
set_option linter.unusedVariables false
set_option linter.unusedSimpArgs false
theorem u8lt {x y : Int} (hx : 0 ≤ x ∧ x ≤ 255) (hy : 0 ≤ y ∧ y ≤ 255) : (x.toNat.toUInt8 < y.toNat.toUInt8) ↔ x < y := by
  rw [UInt8.lt_iff_toNat_lt]
  simp only [UInt8.toNat_ofNat', Nat.toUInt8]
  omega
theorem cmp_bytes : ∀ (a b : List Int), (∀ x ∈ a, 0 ≤ x ∧ x ≤ 255) → (∀ x ∈ b, 0 ≤ x ∧ x ≤ 255) → Go.Lib.compareBytes (Go.Lib.bytesOf a) (Go.Lib.bytesOf b) = cmpF a b
  | [], [], _, _ => rfl
  | [], _ :: _, _, _ => rfl
  | _ :: _, [], _, _ => rfl
  | x :: xs, y :: ys, ha, hb => by
    have ih := cmp_bytes xs ys (fun z hz => ha z (List.mem_cons_of_mem _ hz)) (fun z hz => hb z (List.mem_cons_of_mem _ hz))
    have hx := ha x List.mem_cons_self
    have hy := hb y List.mem_cons_self
    show (if x.toNat.toUInt8 < y.toNat.toUInt8 then (-1 : Int) else if y.toNat.toUInt8 < x.toNat.toUInt8 then 1 else Go.Lib.compareBytes (Go.Lib.bytesOf xs) (Go.Lib.bytesOf ys)) = _
    rw [ih, show cmpF (x :: xs) (y :: ys) = if x < y then -1 else if y < x then 1 else cmpF xs ys from by rw [cmpF]]
    by_cases h1 : x < y
    · rw [if_pos h1, if_pos ((u8lt hx hy).2 h1)]
    · rw [if_neg h1, if_neg (fun h => h1 ((u8lt hx hy).1 h))]
      by_cases h2 : y < x
      · rw [if_pos h2, if_pos ((u8lt hy hx).2 h2)]
      · rw [if_neg h2, if_neg (fun h => h2 ((u8lt hy hx).1 h))]
theorem run_compareSlices {P : Program} (w : World) (a b : Addr) (n m c d : Nat) (xs ys : List Int) (hx : xs.length = n) (hy : ys.length = m) (hcx : ∀ j x, xs[j]? = some x → w.cell? (a.add j) = some (.int .u8 x)) (hcy : ∀ j x, ys[j]? = some x → w.cell? (b.add j) = some (.int .u8 x)) :
    (Extern.BytealgCompare.compare #[.slice (some a) n c, .slice (some b) m d]).run P w = .ok (.int .i64 (Go.Lib.compareBytes (Go.Lib.bytesOf xs) (Go.Lib.bytesOf ys))) w := by
  have h1 := Go.Lib.run_loadBytesX (P := P) w xs a .empty hcx
  have h2 := Go.Lib.run_loadBytesX (P := P) w ys b .empty hcy
  rw [hx] at h1
  rw [hy] at h2
  have he : ∀ l : List UInt8, (⟨ByteArray.empty.data ++ l.toArray⟩ : ByteArray) = ⟨l.toArray⟩ := fun l => by
    apply ByteArray.ext
    show (#[] : Array UInt8) ++ l.toArray = l.toArray
    simp
  rw [he] at h1 h2
  change Sem.run P (do pure (goInt (Extern.BytealgCompare.cmp (← Extern.Bytes.bytesOf (.slice (some a) n c)) (← Extern.Bytes.bytesOf (.slice (some b) m d))))) w = _
  simp only [Extern.Bytes.bytesOf, Sem.run_bind, Sem.run_pure, Result.andThen, h1, h2]
  rw [Go.Lib.cmp_eq]
  rfl
set_option maxHeartbeats 400000 in
set_option maxRecDepth 100000 in
theorem bytesCompare (a b : Addr) (n m c d : Nat) (xs ys : List Int) (hx : xs.length = n) (hy : ys.length = m) (ux : ∀ x ∈ xs, 0 ≤ x ∧ x ≤ 255) (uy : ∀ x ∈ ys, 0 ≤ x ∧ x ≤ 255) (w : World)
    (hcx : ∀ j x, xs[j]? = some x → w.cell? (a.add j) = some (.int .u8 x)) (hcy : ∀ j x, ys[j]? = some x → w.cell? (b.add j) = some (.int .u8 x)) :
    Calls Try.prog 69 #[.slice (some a) n c, .slice (some b) m d] w fun e w' => e = .returned (.int .i64 (cmpF xs ys)) ∧ w' = w := by
  have HX : Hid ((Extern.BytealgCompare.compare #[.slice (some a) n c, .slice (some b) m d]).run Try.prog w = .ok (.int .i64 (cmpF xs ys)) w) := by
    rw [← cmp_bytes xs ys ux uy]
    exact run_compareSlices w a b n m c d xs ys hx hy hcx hcy
  clear hx hy ux uy hcx hcy
  go_enter Try.func69, Try.ntmps69
  go_wp2
  rw [run_callFunc_extern Try.func85 (by kernel_rfl) (by kernel_rfl) (by kernel_rfl) (e := Extern.BytealgCompare.compare) (by kernel_rfl), HX.out]
  simp only [Result.andThen]
  rw [Oper.upon_value]
  go_wp2
  go_ret
  exact ⟨rfl, rfl⟩
theorem add_nul (g j : Nat) : (⟨g, 0, none⟩ : Addr).add j = ⟨g, j, none⟩ := by unfold Addr.add; split <;> simp_all
set_option maxHeartbeats 400000 in
set_option maxRecDepth 100000 in
theorem cmpKeys (a b : List Int) (ha : a.length = 16) (hb : b.length = 16) (ua : ∀ x ∈ a, 0 ≤ x ∧ x ≤ 255) (ub : ∀ x ∈ b, 0 ≤ x ∧ x ≤ 255) (w : World) :
    Calls Try.prog 41 #[.agg (bs a), .agg (bs b)] w fun e w' => e = .returned (.int .i64 (cmpF a b)) ∧ Below w.heap.size w w' := by
  obtain ⟨W, hW⟩ : ∃ W, W = ((w.alloc (Obj.cells (bs a) 26)).alloc (Obj.cells (bs b) 26)) := ⟨_, rfl⟩
  have HA : Hid (W.heap[w.heap.size]? = some (.cells (bs a) 26 (0, 0))) := by subst hW; exact heap_alloc2_old _ _ _
  have HB : Hid (W.heap[w.heap.size + 1]? = some (.cells (bs b) 26 (0, 0))) := by subst hW; exact heap_alloc2_new _ _ _
  have HW : Hid (Below w.heap.size w W) := by subst hW; exact below_alloc (below_alloc (Below.refl _ _) (Nat.le_refl _) _) (Nat.le_refl _) _
  have HC : Hid (∀ n, Calls Try.prog 69 #[.slice (some ⟨w.heap.size, 0, none⟩) 16 16, .slice (some ⟨w.heap.size + 1, 0, none⟩) 16 16] (W.drewN n) fun e w' => e = .returned (.int .i64 (cmpF a b)) ∧ w' = W.drewN n) :=
    fun n => bytesCompare _ _ _ _ _ _ a b ha hb ua ub (W.drewN n) (fun j x hj => by rw [add_nul]; exact bcell (w := W.drewN n) HA.out (bs_get hj)) (fun j x hj => by rw [add_nul]; exact bcell (w := W.drewN n) HB.out (bs_get hj))
  clear ha hb ua ub HA HB
  go_enter Try.func41, Try.ntmps41
  go_wp2
  rw [← hW]
  clear hW
  go_quiet ((go_at_call 69; exact Calls.quiet_of_same (HC.out _)))
  go_wp2
  go_ret
  exact ⟨rfl, below_drewN HW.out _⟩
end Go.Proofs.Ytkifenbcepicjaa.Ky
namespace Go.Proofs.Ytkifenbcepicjaa.Ky
open Go.RowKit Go.Shelf
set_option linter.unusedVariables false
set_option linter.unusedSimpArgs false
def rho : Ren := ⟨fun _ => 76, fun n => if n = 3 then 3 else if n = 5 then 5 else 9, fun n => n⟩
theorem layLen8 : Lays.n126 Try.prog rho where
  mixed := by kernel_rfl
  f126 := Try.func76.trans (by kernel_rfl)
  t3 := Try.underlying3
  a3 := fun _ => by kernel_rfl
  z3 := fun _ => by kernel_rfl
  v3 := fun _ => by kernel_rfl
  t5 := Try.underlying5
  a5 := fun _ => by kernel_rfl
  z5 := fun _ => by kernel_rfl
  v5 := fun _ => by kernel_rfl
  t9 := Try.underlying9
  a9 := fun _ => by kernel_rfl
  z9 := fun _ => by kernel_rfl
  v9 := fun _ => by kernel_rfl
theorem len8Calls (x : Int) (h0 : 0 ≤ x) (h1 : x ≤ 255) (w : World) : Calls Try.prog 76 #[.int .u8 x] w fun e w' => e = .returned (.int .i64 (Go.Lib.bitLen x.toNat)) ∧ w' = w :=
  Any.bits_Len8 layLen8 x w h0 h1
end Go.Proofs.Ytkifenbcepicjaa.Ky
namespace Go.Proofs.Ytkifenbcepicjaa.Ky
open Go.RowKit
set_option linter.unusedVariables false
set_option linter.unusedSimpArgs false
/-- A call that leaves the world alone, in a quiet region behind a quiet region. -/
theorem quietTwice {P : Program} {f : FuncId} {args : Array Value} {w : World} {a n : Nat} {v : Value} (h : Calls P f args (w.drewN (a + n)) fun e w' => e = .returned v ∧ w' = w.drewN (a + n)) : Calls P f args (w.drewN (a + n)) fun e w' => e = .returned v ∧ ∃ m, w' = w.drewN (a + m) := by
  refine h.mono ?_
  rintro e w' ⟨h1, h2⟩
  exact ⟨h1, n, h2⟩
set_option maxHeartbeats 400000 in
set_option maxRecDepth 1000000 in
theorem lz8Calls (x : Int) (h0 : 0 ≤ x) (h1 : x ≤ 255) (w : World) : Calls Try.prog 51 #[.int .u8 x] w fun e w' => e = .returned (.int .i64 (8 - Go.Lib.bitLen x.toNat)) ∧ w' = w := by
  have HC := Lib.hid (len8Calls x h0 h1 w)
  have hb := Go.Lib.bitLen_le8' x h0 h1
  obtain ⟨n, HN⟩ : ∃ n : Nat, Hid (n = Go.Lib.bitLen x.toNat) := ⟨_, rfl⟩
  rw [← HN.out] at HC hb ⊢
  go_enter Try.func51, Try.ntmps51
  go_wp2_with (go_at_call 76; refine HC.out.mono ?_; rintro e w1 ⟨rfl, rfl⟩)
  go_ret
  exact ⟨rfl, rfl⟩
set_option maxHeartbeats 400000 in
set_option maxRecDepth 1000000 in
theorem implCommon (a b : List Int) (ha : a.length = 16) (hb : b.length = 16) (ua : ∀ x ∈ a, 0 ≤ x ∧ x ≤ 255) (ub : ∀ x ∈ b, 0 ≤ x ∧ x ≤ 255) (w : World) :
    Calls Try.prog 23 #[.agg (bs a), .agg (bs b)] w fun e w' => e = .returned (.int .i64 (commonF a b)) ∧ Below w.heap.size w w' := by
  have HA : Hid (((w.alloc (Obj.cells (bs a) 26)).alloc (Obj.cells (bs b) 26)).heap[w.heap.size]? = some (.cells (bs a) 26 (0, 0))) := heap_alloc2_old _ _ _
  have HB : Hid (((w.alloc (Obj.cells (bs a) 26)).alloc (Obj.cells (bs b) 26)).heap[w.heap.size + 1]? = some (.cells (bs b) 26 (0, 0))) := heap_alloc2_new _ _ _
  have HW : Hid (Below w.heap.size w ((w.alloc (Obj.cells (bs a) 26)).alloc (Obj.cells (bs b) 26))) := ((Below.refl _ _).alloc (Nat.le_refl _) _).alloc (by simp) _
  have HL := Lib.hid ha
  have HM := Lib.hid hb
  have HU := Lib.hid ua
  have HV := Lib.hid ub
  clear ha hb ua ub
  go_enter Try.func23, Try.ntmps23
  go_wp2
  go_loopg [4, 5, 6] 16 (fun gg s4 s5 s6 wr => ∃ k : Nat, s6 = .int .i64 k ∧ Hid (k ≤ 16 ∧ 16 - k ≤ gg) ∧ Hid (wr.heap[w.heap.size]? = some (.cells (bs a) 26 (0, 0))) ∧ Hid (wr.heap[w.heap.size + 1]? = some (.cells (bs b) 26 (0, 0))) ∧ Hid (Below w.heap.size w wr) ∧ Hid (8 * k + commonF (a.drop k) (b.drop k) = commonF a b))
  case atStart => exact ⟨0, rfl, Lib.hid (by omega), HA, HB, HW, Lib.hid (by simp)⟩
  case round =>
    clear HA HB HW
    obtain ⟨k, rfl, HK, HA, HB, HW, HR⟩ := hrel
    by_cases hlt : k < 16
    · obtain ⟨x, hx⟩ : ∃ x, a[k]? = some x := ⟨_, List.getElem?_eq_getElem (by have := HL.out; omega)⟩
      obtain ⟨y, hy⟩ : ∃ y, b[k]? = some y := ⟨_, List.getElem?_eq_getElem (by have := HM.out; omega)⟩
      have cx := bcell HA.out (bs_get hx)
      have cy := bcell HB.out (bs_get hy)
      have ⟨x0, x1⟩ := HU.out x (List.mem_of_getElem? hx)
      have ⟨y0, y1⟩ := HV.out y (List.mem_of_getElem? hy)
      have k0 : (0 : Int) ≤ (k : Int) := by omega
      have k1 : (k : Int) < 16 := by omega
      have HS : Hid (8 * k + (if x = y then 8 + commonF (a.drop (k + 1)) (b.drop (k + 1)) else 8 - Go.Lib.bitLen (x.toNat ^^^ y.toNat)) = commonF a b) := by
        have h := HR.out
        obtain ⟨hka, hx⟩ := List.getElem?_eq_some_iff.1 hx
        obtain ⟨hkb, hy⟩ := List.getElem?_eq_some_iff.1 hy
        rw [List.drop_eq_getElem_cons hka, List.drop_eq_getElem_cons hkb, hx, hy, commonF] at h
        exact h
      clear hx hy HR
      by_cases hxy : x = y
      · subst hxy
        rw [if_pos rfl] at HS
        go_wp2
        go_quiet (fail)
        go_wp2
        go_roundg (16 - (k + 1))
        case measure => have := HK.out; omega
        case rel => exact ⟨k + 1, by go_num, Lib.hid (by have := HK.out; omega), HA, HB, Lib.hid (below_drewN HW.out _), Lib.hid (by rw [← HS.out]; omega)⟩
      · have hne : (x == y) = false := by simpa using hxy
        rw [if_neg hxy] at HS
        have hz := Go.u8_xor x y x0 (by omega) y0 (by omega)
        have z1 : ((x.toNat ^^^ y.toNat : Nat) : Int) ≤ 255 := by
          have := Nat.xor_lt_two_pow (x := x.toNat) (y := y.toNat) (n := 8) (by omega) (by omega)
          omega
        have z0 : (0 : Int) ≤ ((x.toNat ^^^ y.toNat : Nat) : Int) := Int.natCast_nonneg _
        have m1 := Go.Lib.bitLen_le8' _ z0 z1
        have HC := Lib.hid (lz8Calls _ z0 z1)
        rw [Int.toNat_natCast] at HC m1
        obtain ⟨m, HM⟩ : ∃ m : Nat, Hid (m = Go.Lib.bitLen (x.toNat ^^^ y.toNat)) := ⟨_, rfl⟩
        rw [← HM.out] at HC m1 HS
        obtain ⟨z, HZ⟩ : ∃ z : Int, Hid (z = ((x.toNat ^^^ y.toNat : Nat) : Int)) := ⟨_, rfl⟩
        rw [← HZ.out] at HC hz z0 z1
        have hs1 : IntKind.i64.wrap (8 * (k : Int)) = 8 * (k : Int) := by rw [IntKind.wrap_i64]; omega
        have hs2 : IntKind.i64.wrap (8 * (k : Int) + (8 - (m : Int))) = 8 * (k : Int) + (8 - (m : Int)) := by rw [IntKind.wrap_i64]; omega
        go_wp2
        go_quiet (fail)
        go_wp2
        go_quiet ((go_at_call 51; exact quietTwice (HC.out _)))
        go_wp2
        go_ret
        exact ⟨by rw [← HS.out]; show Ending.returned (.int .i64 _) = _; congr 2; omega, below_drewN (below_drewN HW.out _) _⟩
    · have hd : a.drop k = [] := List.drop_eq_nil_of_le (by have := HL.out; omega)
      have HS : Hid (128 = commonF a b) := by have h := HR.out; rw [hd, show k = 16 from by have := HK.out; omega] at h; exact h
      have c0 : decide ((k : Int) < 16) = false := decide_eq_false (by omega)
      clear hd HR hlt
      go_wp2
      go_ret
      exact ⟨by rw [← HS.out]; rfl, HW.out⟩
theorem bit_of {x y b : Nat} (hx : x < 256) (hy : y < 256) (hb : b < 8) (h : x / 2 ^ (b + 1) = y / 2 ^ (b + 1)) (hd : x / 2 ^ b % 2 ≠ y / 2 ^ b % 2) : Go.Lib.bitLen (x ^^^ y) = b + 1 := by
  have hall : ∀ z : Fin 256, ∀ c : Fin 8, z.val / 2 ^ (c.val + 1) = 0 → z.val / 2 ^ c.val % 2 = 1 → Go.Lib.bitLen z.val = c.val + 1 := by decide +kernel
  have hz : x ^^^ y < 256 := Nat.xor_lt_two_pow (n := 8) hx hy
  refine hall ⟨x ^^^ y, hz⟩ ⟨b, hb⟩ ?_ ?_
  · show (x ^^^ y) / 2 ^ (b + 1) = 0
    rw [← Nat.shiftRight_eq_div_pow, Nat.shiftRight_xor_distrib, Nat.shiftRight_eq_div_pow, Nat.shiftRight_eq_div_pow, h, Nat.xor_self]
  · show (x ^^^ y) / 2 ^ b % 2 = 1
    have h1 := Nat.testBit_xor x y b
    rw [Nat.testBit_eq_decide_div_mod_eq, Nat.testBit_eq_decide_div_mod_eq, Nat.testBit_eq_decide_div_mod_eq] at h1
    have hx2 := Nat.mod_two_eq_zero_or_one (x / 2 ^ b)
    have hy2 := Nat.mod_two_eq_zero_or_one (y / 2 ^ b)
    have hz2 := Nat.mod_two_eq_zero_or_one ((x ^^^ y) / 2 ^ b)
    rcases hx2 with h2 | h2 <;> rcases hy2 with h3 | h3 <;> rcases hz2 with h4 | h4 <;> simp_all
theorem bit_and (x : Int) (c : Nat) (h0 : 0 ≤ x) (h1 : x ≤ 255) (hc : c < 8) : bits .and .u8 (x / 2 ^ c) 1 = ((x.toNat / 2 ^ c % 2 : Nat) : Int) := by
  obtain ⟨n, rfl⟩ := Int.eq_ofNat_of_zero_le h0
  have hd : n / 2 ^ c ≤ n := Nat.div_le_self _ _
  have e : ((n : Int) / 2 ^ c) = ((n / 2 ^ c : Nat) : Int) := by simp
  have hm := bits_mask .u8 8 (by decide) wraps_u8 1 (by decide) ((n / 2 ^ c : Nat) : Int) (Int.natCast_nonneg _) (by show ((n / 2 ^ c : Nat) : Int) < 256; omega)
  rw [e, show (1 : Int) = 2 ^ 1 - 1 from rfl, hm, Int.toNat_natCast]
  show ((n / 2 ^ c : Nat) : Int) % 2 = _
  omega
theorem half_step {x c : Nat} : x / 2 ^ c = 2 * (x / 2 ^ (c + 1)) + x / 2 ^ c % 2 := by
  rw [Nat.pow_succ, ← Nat.div_div_eq_div_mul]
  omega
set_option maxHeartbeats 1000000 in
set_option maxRecDepth 1000000 in
theorem specCommon (a b : List Int) (ha : a.length = 16) (hb : b.length = 16) (ua : ∀ x ∈ a, 0 ≤ x ∧ x ≤ 255) (ub : ∀ x ∈ b, 0 ≤ x ∧ x ≤ 255) (w : World) :
    Calls Try.prog 32 #[.agg (bs a), .agg (bs b)] w fun e w' => e = .returned (.int .i64 (commonF a b)) ∧ Below w.heap.size w w' := by
  have HA : Hid (((w.alloc (Obj.cells (bs a) 26)).alloc (Obj.cells (bs b) 26)).heap[w.heap.size]? = some (.cells (bs a) 26 (0, 0))) := heap_alloc2_old _ _ _
  have HB : Hid (((w.alloc (Obj.cells (bs a) 26)).alloc (Obj.cells (bs b) 26)).heap[w.heap.size + 1]? = some (.cells (bs b) 26 (0, 0))) := heap_alloc2_new _ _ _
  have HW : Hid (Below w.heap.size w ((w.alloc (Obj.cells (bs a) 26)).alloc (Obj.cells (bs b) 26))) := ((Below.refl _ _).alloc (Nat.le_refl _) _).alloc (by simp) _
  have HL := Lib.hid ha
  have HM := Lib.hid hb
  have HU := Lib.hid ua
  have HV := Lib.hid ub
  clear ha hb ua ub
  go_enter Try.func32, Try.ntmps32
  go_wp2
  go_loopg [5, 6, 7] 16 (fun gg s5 s6 s7 wr => ∃ k : Nat, s5 = .int .i64 (8 * (k : Int)) ∧ s6 = .int .i64 k ∧ Hid (k ≤ 16 ∧ 16 - k ≤ gg) ∧ Hid (wr.heap[w.heap.size]? = some (.cells (bs a) 26 (0, 0))) ∧ Hid (wr.heap[w.heap.size + 1]? = some (.cells (bs b) 26 (0, 0))) ∧ Hid (Below w.heap.size w wr) ∧ Hid (8 * k + commonF (a.drop k) (b.drop k) = commonF a b))
  case atStart => exact ⟨0, rfl, rfl, Lib.hid (by omega), HA, HB, HW, Lib.hid (by simp)⟩
  case round =>
    clear HA HB HW
    obtain ⟨k, rfl, rfl, HK, HA, HB, HW, HR⟩ := hrel
    obtain ⟨wo, rfl⟩ : ∃ wo : World, wo = wr := ⟨_, rfl⟩
    by_cases hlt : k < 16
    · obtain ⟨x, hx⟩ : ∃ x, a[k]? = some x := ⟨_, List.getElem?_eq_getElem (by have := HL.out; omega)⟩
      obtain ⟨y, hy⟩ : ∃ y, b[k]? = some y := ⟨_, List.getElem?_eq_getElem (by have := HM.out; omega)⟩
      have HX := Lib.hid hx
      have HY := Lib.hid hy
      have HBX := Lib.hid (HU.out x (List.mem_of_getElem? hx))
      have HBY := Lib.hid (HV.out y (List.mem_of_getElem? hy))
      have k0 : (0 : Int) ≤ (k : Int) := by omega
      have k1 : (k : Int) < 16 := by omega
      have HS : Hid (8 * k + (if x = y then 8 + commonF (a.drop (k + 1)) (b.drop (k + 1)) else 8 - Go.Lib.bitLen (x.toNat ^^^ y.toNat)) = commonF a b) := by
        have h := HR.out
        obtain ⟨hka, hx⟩ := List.getElem?_eq_some_iff.1 hx
        obtain ⟨hkb, hy⟩ := List.getElem?_eq_some_iff.1 hy
        rw [List.drop_eq_getElem_cons hka, List.drop_eq_getElem_cons hkb, hx, hy, commonF] at h
        exact h
      clear hx hy HR
      go_wp2
      go_loopg [5, 7] 8 (fun gj s5 s7 wr => ∃ b2 : Int, s5 = .int .i64 (8 * (k : Int) + (7 - b2)) ∧ s7 = .int .i64 b2 ∧ Hid (-1 ≤ b2 ∧ b2 ≤ 7 ∧ b2 + 1 ≤ gj) ∧ Hid (wr.heap[w.heap.size]? = some (.cells (bs a) 26 (0, 0))) ∧ Hid (wr.heap[w.heap.size + 1]? = some (.cells (bs b) 26 (0, 0))) ∧ Hid (Below w.heap.size w wr) ∧ Hid (x.toNat / 2 ^ (b2 + 1).toNat = y.toNat / 2 ^ (b2 + 1).toNat))
      case atStart => exact ⟨7, by first | rfl | (simp; done), rfl, Lib.hid (by omega), HA, HB, HW, Lib.hid (by
        have := HBX.out
        have := HBY.out
        rw [Nat.div_eq_of_lt (show x.toNat < 2 ^ (7 + 1 : Int).toNat by show x.toNat < 256; omega), Nat.div_eq_of_lt (show y.toNat < 2 ^ (7 + 1 : Int).toNat by show y.toNat < 256; omega)])⟩
      case round =>
        clear HA HB HW
        obtain ⟨b2, rfl, rfl, HJ, HA, HB, HW, HD⟩ := hrel
        by_cases hj : 0 ≤ b2
        · obtain ⟨c, rfl⟩ : ∃ c : Nat, b2 = (c : Int) := ⟨b2.toNat, by omega⟩
          have cx := bcell HA.out (bs_get HX.out)
          have cy := bcell HB.out (bs_get HY.out)
          have c1 : decide ((c : Int) ≥ 0) = true := decide_eq_true hj
          have hc8 : c < 8 := by have := HJ.out; omega
          have hpx := bit_and x c HBX.out.1 HBX.out.2 hc8
          have hpy := bit_and y c HBY.out.1 HBY.out.2 hc8
          obtain ⟨p, HP⟩ : ∃ p : Nat, Hid (p = x.toNat / 2 ^ c % 2) := ⟨_, rfl⟩
          obtain ⟨q, HQ⟩ : ∃ q : Nat, Hid (q = y.toNat / 2 ^ c % 2) := ⟨_, rfl⟩
          rw [← HP.out] at hpx
          rw [← HQ.out] at hpy
          have hD := HD.out
          rw [show ((c : Int) + 1).toNat = c + 1 from by omega] at hD
          have s1 : (8 * (k : Int) + (7 - (c : Int))) ≤ 127 := by omega
          have s2 : 0 ≤ (8 * (k : Int) + (7 - (c : Int))) := by omega
          by_cases hpq : p = q
          · subst hpq
            have HE : Hid (x.toNat / 2 ^ c = y.toNat / 2 ^ c) := by
              have h1 := half_step (x := x.toNat) (c := c)
              have h2 := half_step (x := y.toNat) (c := c)
              have h3 := HP.out
              have h4 := HQ.out
              exact Lib.hid (by omega)
            clear hD
            go_wp2
            go_quiet (fail)
            go_wp2
            go_roundg c
            case measure => have := HJ.out; omega
            case rel => exact ⟨(c : Int) - 1, by go_num, rfl, Lib.hid (by have := HJ.out; omega), HA, HB, Lib.hid (below_drewN HW.out _), Lib.hid (by rw [show ((c : Int) - 1 + 1).toNat = c from by omega]; exact HE.out)⟩
          · have hne : ((p : Int) == (q : Int)) = false := by simp; omega
            have hxy : ¬ x = y := by
              rintro rfl
              exact hpq (HP.out.trans HQ.out.symm)
            have HF : Hid (8 * k + (7 - c) = commonF a b) := by
              have h := HS.out
              rw [if_neg hxy, bit_of (b := c) (by have := HBX.out; omega) (by have := HBY.out; omega) hc8 hD (by rw [← HP.out, ← HQ.out]; exact hpq)] at h
              exact Lib.hid (by omega)
            clear hD hxy
            go_wp2
            go_quiet (fail)
            go_wp2
            go_ret
            exact ⟨by rw [← HF.out]; show Ending.returned (.int .i64 _) = _; congr 2; omega, below_drewN HW.out _⟩
        · obtain rfl : b2 = -1 := by have := HJ.out; omega
          have c1 : decide ((-1 : Int) ≥ 0) = false := rfl
          have HF : Hid (8 * (k + 1) + commonF (a.drop (k + 1)) (b.drop (k + 1)) = commonF a b) := by
            have h := HS.out
            have e : x = y := by
              have h1 := HD.out
              have := HBX.out
              have := HBY.out
              have h2 : x.toNat / 1 = y.toNat / 1 := h1
              omega
            rw [if_pos e] at h
            exact Lib.hid (by omega)
          clear hj
          go_wp2
          go_roundg (16 - (k + 1))
          case measure => have := HK.out; omega
          case rel => exact ⟨k + 1, by go_num, by go_num, Lib.hid (by have := HK.out; omega), HA, HB, HW, HF⟩
    · have hd : a.drop k = [] := List.drop_eq_nil_of_le (by have := HL.out; omega)
      have HS : Hid (128 = commonF a b) := by have h := HR.out; rw [hd, show k = 16 from by have := HK.out; omega] at h; exact h
      obtain rfl : k = 16 := by have := HK.out; omega
      clear hd HR hlt
      go_wp2
      go_ret
      exact ⟨by rw [← HS.out]; rfl, HW.out⟩
end Go.Proofs.Ytkifenbcepicjaa.Ky
namespace Go.Proofs.Ytkifenbcepicjaa.Ky
open Go.RowKit
set_option linter.unusedVariables false
set_option linter.unusedSimpArgs false
/-- What NextKey tells. -/
def nextR (a : List Int) : Value := match nextF 16 a with
  | some l => .tuple #[.agg (bs l), .bool true]
  | none => .tuple #[.agg (bs (List.replicate 16 0)), .bool false]
theorem nextF_some {k : Nat} {l : List Int} (h : l.getD k 0 < 255) : nextF (k + 1) l = some (l.set k (l.getD k 0 + 1)) := by rw [nextF, if_pos h]
theorem nextF_none {k : Nat} {l : List Int} (h : ¬ l.getD k 0 < 255) : nextF (k + 1) l = nextF k (l.set k 0) := by rw [nextF, if_neg h]
theorem nextR_some {a l : List Int} (h : nextF 16 a = some l) : nextR a = .tuple #[.agg (bs l), .bool true] := by unfold nextR; rw [h]
theorem nextR_none {a : List Int} (h : nextF 16 a = none) : nextR a = .tuple #[.agg (bs (List.replicate 16 0)), .bool false] := by unfold nextR; rw [h]
theorem u8set {l : List Int} {k : Nat} {x : Int} (h : ∀ y ∈ l, 0 ≤ y ∧ y ≤ 255) (h0 : 0 ≤ x) (h1 : x ≤ 255) : ∀ y ∈ l.set k x, 0 ≤ y ∧ y ≤ 255 := fun y hy => by
  rcases List.mem_or_eq_of_mem_set hy with hy | rfl
  · exact h y hy
  · exact ⟨h0, h1⟩
theorem results_row_tmp {P : Program} {fn : Func} {p q : Tmp} {ty : TypeId} (h : fn.results = #[.cell p ty, .tmp q]) (tmps : Array Value) (w : World) (g : Nat) (t : TypeId) (cs : Array Value) (fr : Nat × Nat) (d : TypeDesc)
    (hp : tmps.getD p undef = .pointer (some ⟨g, 0, none⟩)) (hg : w.heap[g]? = some (.cells cs t fr))
    (hu : P.underlying ty = some d) (hd : (match d with | .struct _ | .array _ _ => true | _ => false) = true) (hi : (P.info? ty).map (·.size) = some cs.size) :
    (results fn tmps).run P w = .ok (.tuple #[.agg cs, tmps.getD q undef]) w := by
  have hp' : tmps[p]?.getD undef = .pointer (some ⟨g, 0, none⟩) := by simpa using hp
  simp [results, h, hp', asAddr, run_loadVar_row w g t ty cs fr d hg hu hd hi]
set_option maxHeartbeats 400000 in
set_option maxRecDepth 100000 in
theorem specNext (a : List Int) (ha : a.length = 16) (hu : ∀ x ∈ a, 0 ≤ x ∧ x ≤ 255) (w : World) :
    Calls Try.prog 27 #[.agg (bs a)] w fun e w' => e = .returned (nextR a) ∧ Below w.heap.size w w' := by
  have HL := Lib.hid ha
  have HU := Lib.hid hu
  clear ha hu
  go_enter Try.func27, Try.ntmps27
  go_wp2
  rw [bs_zero]
  obtain ⟨W, hW⟩ : ∃ W, W = ((w.alloc (Obj.cells (bs a) 26)).alloc (Obj.cells (bs (List.replicate 16 0)) 26)) := ⟨_, rfl⟩
  rw [← hW]
  have HA : Hid (W.heap[w.heap.size]? = some (.cells (bs a) 26 (0, 0))) := by subst hW; exact heap_alloc2_old _ _ _
  have HB : Hid (W.heap[w.heap.size + 1]? = some (.cells (bs (List.replicate 16 0)) 26 (0, 0))) := by subst hW; exact heap_alloc2_new _ _ _
  have HW : Hid (Below w.heap.size w W) := by subst hW; exact below_alloc (below_alloc (Below.refl _ _) (Nat.le_refl _) _) (Nat.le_refl _) _
  clear hW
  go_loopg [4] 17 (fun gg s4 wr => ∃ (k : Int) (l : List Int), s4 = .int .i64 k ∧ Hid (-1 ≤ k ∧ k ≤ 15 ∧ k + 2 ≤ gg) ∧ Hid (wr.heap[w.heap.size]? = some (.cells (bs l) 26 (0, 0))) ∧ Hid (wr.heap[w.heap.size + 1]? = some (.cells (bs (List.replicate 16 0)) 26 (0, 0))) ∧ Hid (Below w.heap.size w wr) ∧ Hid (l.length = 16 ∧ (∀ x ∈ l, 0 ≤ x ∧ x ≤ 255) ∧ nextF (k + 1).toNat l = nextF 16 a))
  case atStart => exact ⟨15, a, rfl, Lib.hid (by omega), HA, HB, HW, Lib.hid ⟨HL.out, HU.out, rfl⟩⟩
  case round =>
    clear HA HB HW HL HU
    obtain ⟨k, l, rfl, HK, HA, HB, HW, HR⟩ := hrel
    have HI := Lib.hid (hKs HR.out.1)
    by_cases hlt : 0 ≤ k
    · obtain ⟨n, rfl⟩ : ∃ n : Nat, k = (n : Int) := ⟨k.toNat, by omega⟩
      have hn : n < 16 := by have := HK.out; omega
      obtain ⟨x, hx⟩ : ∃ x, l[n]? = some x := ⟨_, List.getElem?_eq_getElem (by have := HR.out.1; omega)⟩
      have cx := bcell HA.out (bs_get hx)
      have fx := bfrozen HA.out n
      have hD : l.getD n 0 = x := by rw [List.getD_eq_getElem?_getD, hx]; rfl
      have x0 := HR.out.2.1 x (List.mem_of_getElem? hx)
      have x1 := x0.2
      replace x0 := x0.1
      have hS := HR.out.2.2
      rw [show ((n : Int) + 1).toNat = n + 1 from by omega] at hS
      have c1 : decide ((n : Int) ≥ 0) = true := decide_eq_true hlt
      have k1 : (n : Int) < 16 := by omega
      by_cases h255 : x < 255
      · rw [nextF_some (by rw [hD]; exact h255), hD] at hS
        have HS := Lib.hid hS
        have HI2 := Lib.hid (hKs (l := l.set n (x + 1)) (by rw [List.length_set]; exact HR.out.1))
        have HA2 : Hid ((wr.setCell ⟨w.heap.size, n, none⟩ (.int .u8 (x + 1))).heap[w.heap.size]? = some (.cells (bs (l.set n (x + 1))) 26 (0, 0))) := by rw [← bs_set]; exact bset HA.out n _
        have HB2 : Hid ((wr.setCell ⟨w.heap.size, n, none⟩ (.int .u8 (x + 1))).heap[w.heap.size + 1]? = some (.cells (bs (List.replicate 16 0)) 26 (0, 0))) := bfar HB.out (by simp) _
        have c2 : decide (x < 255) = true := decide_eq_true h255
        clear hS hD hx
        go_wp2_with (first | (refine wpList_load_row rfl 26 _ rfl (w.heap.size) rfl 26 (bs (l.set n (x + 1))) (0, 0) _ HA2.out hK rfl HI2.out ?_) | (refine wpList_store_mid rfl 26 _ _ rfl (w.heap.size + 1) 0 (bs (l.set n (x + 1))) rfl rfl (bthere HB2.out (by rw [bs_size, bs_size, List.length_set, HR.out.1]; rfl)) HI2.out (bs_one _) ?_))
        have HB3 := Lib.hid (bsetAll HB2.out (c1 := bs (l.set n (x + 1))) (by rw [bs_size, bs_size, List.length_set, HR.out.1]; rfl))
        exact bodyPost_ret (results_row_tmp rfl _ _ (w.heap.size + 1) 26 (bs (l.set n (x + 1))) (0, 0) _ rfl HB3.out hK rfl HI2.out) rfl ⟨by rw [nextR_some HS.out.symm]; rfl, below_sets (below_set HW.out (by simp) _) (by omega) _ _⟩
      · rw [nextF_none (by rw [hD]; exact h255)] at hS
        have HS := Lib.hid hS
        have c2 : decide (x < 255) = false := decide_eq_false h255
        clear hS hD hx
        go_wp2
        go_roundg (gk - 1)
        case measure => have := HK.out; omega
        case rel => exact ⟨(n : Int) - 1, l.set n 0, rfl, Lib.hid (by have := HK.out; omega), Lib.hid (by rw [← bs_set]; exact bset HA.out n _), Lib.hid (bfar HB.out (by simp) _), Lib.hid (below_set HW.out (by simp) _), Lib.hid ⟨by rw [List.length_set]; exact HR.out.1, u8set HR.out.2.1 (by omega) (by omega), by rw [show ((n : Int) - 1 + 1).toNat = n from by omega]; exact HS.out⟩⟩
    · have c1 : decide (k ≥ 0) = false := decide_eq_false hlt
      obtain rfl : k = -1 := by have := HK.out; omega
      have HS : Hid (nextF 16 a = none) := HR.out.2.2.symm
      have HI0 := Lib.hid (hKs (l := List.replicate 16 0) rfl)
      go_wp2_with (refine wpList_store_mid rfl 26 _ _ rfl (w.heap.size + 1) 0 (bs (List.replicate 16 0)) rfl rfl (bthere HB.out rfl) HI0.out (bs_one _) ?_)
      have HB3 := Lib.hid (bsetAll HB.out (c1 := bs (List.replicate 16 0)) rfl)
      exact bodyPost_ret (results_row_tmp rfl _ _ (w.heap.size + 1) 26 (bs (List.replicate 16 0)) (0, 0) _ rfl HB3.out hK rfl HI0.out) rfl ⟨by rw [nextR_none HS.out]; rfl, below_sets HW.out (by omega) _ _⟩
set_option maxHeartbeats 400000 in
set_option maxRecDepth 100000 in
theorem implNext (a : List Int) (ha : a.length = 16) (hu : ∀ x ∈ a, 0 ≤ x ∧ x ≤ 255) (w : World) :
    Calls Try.prog 26 #[.agg (bs a)] w fun e w' => e = .returned (nextR a) ∧ Below w.heap.size w w' := by
  have HL := Lib.hid ha
  have HU := Lib.hid hu
  clear ha hu
  go_enter Try.func26, Try.ntmps26
  go_wp2
  rw [bs_zero]
  obtain ⟨W, hW⟩ : ∃ W, W = ((w.alloc (Obj.cells (bs a) 26)).alloc (Obj.cells (bs (List.replicate 16 0)) 26)) := ⟨_, rfl⟩
  rw [← hW]
  have HA : Hid (W.heap[w.heap.size]? = some (.cells (bs a) 26 (0, 0))) := by subst hW; exact heap_alloc2_old _ _ _
  have HB : Hid (W.heap[w.heap.size + 1]? = some (.cells (bs (List.replicate 16 0)) 26 (0, 0))) := by subst hW; exact heap_alloc2_new _ _ _
  have HW : Hid (Below w.heap.size w W) := by subst hW; exact below_alloc (below_alloc (Below.refl _ _) (Nat.le_refl _) _) (Nat.le_refl _) _
  clear hW
  go_loopg [4] 17 (fun gg s4 wr => ∃ (k : Int) (l : List Int), s4 = .int .i64 k ∧ Hid (-1 ≤ k ∧ k ≤ 15 ∧ k + 2 ≤ gg) ∧ Hid (wr.heap[w.heap.size]? = some (.cells (bs l) 26 (0, 0))) ∧ Hid (wr.heap[w.heap.size + 1]? = some (.cells (bs (List.replicate 16 0)) 26 (0, 0))) ∧ Hid (Below w.heap.size w wr) ∧ Hid (l.length = 16 ∧ (∀ x ∈ l, 0 ≤ x ∧ x ≤ 255) ∧ nextF (k + 1).toNat l = nextF 16 a))
  case atStart => exact ⟨15, a, rfl, Lib.hid (by omega), HA, HB, HW, Lib.hid ⟨HL.out, HU.out, rfl⟩⟩
  case round =>
    clear HA HB HW HL HU
    obtain ⟨k, l, rfl, HK, HA, HB, HW, HR⟩ := hrel
    have HI := Lib.hid (hKs HR.out.1)
    by_cases hlt : 0 ≤ k
    · obtain ⟨n, rfl⟩ : ∃ n : Nat, k = (n : Int) := ⟨k.toNat, by omega⟩
      have hn : n < 16 := by have := HK.out; omega
      obtain ⟨x, hx⟩ : ∃ x, l[n]? = some x := ⟨_, List.getElem?_eq_getElem (by have := HR.out.1; omega)⟩
      have cx := bcell HA.out (bs_get hx)
      have fx := bfrozen HA.out n
      have hD : l.getD n 0 = x := by rw [List.getD_eq_getElem?_getD, hx]; rfl
      have x0 := HR.out.2.1 x (List.mem_of_getElem? hx)
      have x1 := x0.2
      replace x0 := x0.1
      have hS := HR.out.2.2
      rw [show ((n : Int) + 1).toNat = n + 1 from by omega] at hS
      have c1 : decide ((n : Int) ≥ 0) = true := decide_eq_true hlt
      have k1 : (n : Int) < 16 := by omega
      by_cases h255 : x < 255
      · rw [nextF_some (by rw [hD]; exact h255), hD] at hS
        have HS := Lib.hid hS
        have HI2 := Lib.hid (hKs (l := l.set n (x + 1)) (by rw [List.length_set]; exact HR.out.1))
        have HA2 : Hid ((wr.setCell ⟨w.heap.size, n, none⟩ (.int .u8 (x + 1))).heap[w.heap.size]? = some (.cells (bs (l.set n (x + 1))) 26 (0, 0))) := by rw [← bs_set]; exact bset HA.out n _
        have HB2 : Hid ((wr.setCell ⟨w.heap.size, n, none⟩ (.int .u8 (x + 1))).heap[w.heap.size + 1]? = some (.cells (bs (List.replicate 16 0)) 26 (0, 0))) := bfar HB.out (by simp) _
        have c2 : (x + 1 == 0) = false := beq_eq_false_iff_ne.2 (by omega)
        have c3 : (x + 1 != 0) = true := bne_iff_ne.2 (by omega)
        have x2 : x + 1 ≤ 255 := by omega
        clear hS hD hx
        go_wp2_with (first | (refine wpList_load_row rfl 26 _ rfl (w.heap.size) rfl 26 (bs (l.set n (x + 1))) (0, 0) _ HA2.out hK rfl HI2.out ?_) | (refine wpList_store_mid rfl 26 _ _ rfl (w.heap.size + 1) 0 (bs (l.set n (x + 1))) rfl rfl (bthere HB2.out (by rw [bs_size, bs_size, List.length_set, HR.out.1]; rfl)) HI2.out (bs_one _) ?_))
        have HB3 := Lib.hid (bsetAll HB2.out (c1 := bs (l.set n (x + 1))) (by rw [bs_size, bs_size, List.length_set, HR.out.1]; rfl))
        exact bodyPost_ret (results_row_tmp rfl _ _ (w.heap.size + 1) 26 (bs (l.set n (x + 1))) (0, 0) _ rfl HB3.out hK rfl HI2.out) rfl ⟨by rw [nextR_some HS.out.symm]; rfl, below_sets (below_set HW.out (by simp) _) (by omega) _ _⟩
      · rw [nextF_none (by rw [hD]; exact h255)] at hS
        have HS := Lib.hid hS
        obtain rfl : x = 255 := by omega
        clear h255 x0 x1
        clear hS hD hx
        go_wp2
        go_roundg (gk - 1)
        case measure => have := HK.out; omega
        case rel => exact ⟨(n : Int) - 1, l.set n 0, rfl, Lib.hid (by have := HK.out; omega), Lib.hid (by rw [← bs_set]; exact bset HA.out n _), Lib.hid (bfar HB.out (by simp) _), Lib.hid (below_set HW.out (by simp) _), Lib.hid ⟨by rw [List.length_set]; exact HR.out.1, u8set HR.out.2.1 (by omega) (by omega), by rw [show ((n : Int) - 1 + 1).toNat = n from by omega]; exact HS.out⟩⟩
    · have c1 : decide (k ≥ 0) = false := decide_eq_false hlt
      obtain rfl : k = -1 := by have := HK.out; omega
      have HS : Hid (nextF 16 a = none) := HR.out.2.2.symm
      have HI0 := Lib.hid (hKs (l := List.replicate 16 0) rfl)
      go_wp2_with (refine wpList_store_mid rfl 26 _ _ rfl (w.heap.size + 1) 0 (bs (List.replicate 16 0)) rfl rfl (bthere HB.out rfl) HI0.out (bs_one _) ?_)
      have HB3 := Lib.hid (bsetAll HB.out (c1 := bs (List.replicate 16 0)) rfl)
      exact bodyPost_ret (results_row_tmp rfl _ _ (w.heap.size + 1) 26 (bs (List.replicate 16 0)) (0, 0) _ rfl HB3.out hK rfl HI0.out) rfl ⟨by rw [nextR_none HS.out]; rfl, below_sets HW.out (by omega) _ _⟩
end Go.Proofs.Ytkifenbcepicjaa.Ky
namespace Go.Proofs.Ytkifenbcepicjaa.Ky
open Go.RowKit
set_option linter.unusedVariables false
set_option linter.unusedSimpArgs false
set_option maxHeartbeats 400000 in
set_option maxRecDepth 100000 in
theorem implLess (a b : List Int) (ha : a.length = 16) (hb : b.length = 16) (ua : ∀ x ∈ a, 0 ≤ x ∧ x ≤ 255) (ub : ∀ x ∈ b, 0 ≤ x ∧ x ≤ 255) (w : World) :
    Calls Try.prog 22 #[.agg (bs a), .agg (bs b)] w fun e w' => e = .returned (.bool (lessF a b)) ∧ Below w.heap.size w w' := by
  obtain ⟨W, hW⟩ : ∃ W, W = ((w.alloc (Obj.cells (bs a) 26)).alloc (Obj.cells (bs b) 26)) := ⟨_, rfl⟩
  have HA : Hid (W.heap[w.heap.size]? = some (.cells (bs a) 26 (0, 0))) := by subst hW; exact heap_alloc2_old _ _ _
  have HB : Hid (W.heap[w.heap.size + 1]? = some (.cells (bs b) 26 (0, 0))) := by subst hW; exact heap_alloc2_new _ _ _
  have HW : Hid (Below w.heap.size w W) := by subst hW; exact below_alloc (below_alloc (Below.refl _ _) (Nat.le_refl _) _) (Nat.le_refl _) _
  have HC := Lib.hid (cmpKeys a b ha hb ua ub W)
  have HI := Lib.hid (hKs ha)
  have HJ := Lib.hid (hKs hb)
  have HS := Lib.hid (cmp_less a b (by omega))
  clear ha hb ua ub
  go_enter Try.func22, Try.ntmps22
  go_upto_region 1 with (fail)
  rw [← hW]
  clear hW
  go_wp2_with (first | (refine wpList_load_row rfl 26 _ rfl (w.heap.size) rfl 26 (bs a) (0, 0) _ HA.out hK rfl HI.out ?_) | (refine wpList_load_row rfl 26 _ rfl (w.heap.size + 1) rfl 26 (bs b) (0, 0) _ HB.out hK rfl HJ.out ?_) | (go_at_call 41; refine HC.out.mono ?_; rintro e w1 ⟨rfl, hb⟩))
  go_ret
  exact ⟨by rw [← HS.out]; rfl, below_then HW.out (Nat.le_refl _) hb⟩
end Go.Proofs.Ytkifenbcepicjaa.Ky
