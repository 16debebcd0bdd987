/- What is proved here: facts that lie in blocks of their own stay told; regions are walked step by step; what keys and their common bits come to. No condition beyond those that each theorem states. Written by this session. -/
import Derived.Test.YtkifenbcepicjaaGa
import Derived.Test.YtkifenbcepicjaaWWords
import Derived.Test.YtkifenbcepicjaaWApart
import Derived.Test.YtkifenbcepicjaaWMore
import Derived.Test.YtkifenbcepicjaaProg
import Derived.Below
import Derived.WalkKit
import Derived.Tactics
import Derived.RowKit3
import Derived.Deep.MidRow
import Derived.Deep.Upon
import Derived.Deep.RegionHeld3
import Derived.OrdersHeld
import Derived.Test.YtkifenbcepicjaaWTab
import Derived.Great.BuildSlice
import Derived.ArgAppend
import Derived.Lib.SliceRun
import Derived.Test.YtkifenbcepicjaaWArr
import Derived.ChangeKeysEq
import Derived.Lib.BitFns
import Derived.Laws.BitsLemmas
namespace Go.Proofs.Ytkifenbcepicjaa.Lv
open Go.RowKit Go.Proofs.YtkifenbcepicjaaW.PrintWords
set_option linter.unusedVariables false
set_option linter.unusedSimpArgs false
/-- A fact, told of the blocks that it may lie in and of a world. -/
abbrev Fact := (Nat → Prop) → World → Prop
/-- Facts, each in blocks of its own, all within U. -/
def Live (W : World) : List Fact → (Nat → Prop) → Prop
  | [], _ => True
  | P :: Ps, U => ∃ S : Nat → Prop, (∀ k, S k → U k) ∧ Foot (P S) W S ∧ Live W Ps (fun k => U k ∧ ¬ S k)
theorem Live.mono {W : World} : ∀ {Ps : List Fact} {U V : Nat → Prop}, (∀ k, U k → V k) → Live W Ps U → Live W Ps V
  | [], _, _, _, _ => trivial
  | _ :: _, _, _, hv, ⟨S, h1, h2, h3⟩ => ⟨S, fun k hk => hv k (h1 k hk), h2, Live.mono (fun k hk => ⟨hv k hk.1, hk.2⟩) h3⟩
theorem Live.step {W W' : World} : ∀ {Ps : List Fact} {U : Nat → Prop}, (∀ k, U k → W'.heap[k]? = W.heap[k]?) → Live W Ps U → Live W' Ps U
  | [], _, _, _ => trivial
  | _ :: _, _, hm, ⟨S, h1, h2, h3⟩ => ⟨S, h1, h2.step (fun k hk _ => hm k (h1 k hk)), Live.step (fun k hk => hm k hk.1) h3⟩
theorem Live.get {W : World} : ∀ {Ps : List Fact} {U : Nat → Prop} {i : Nat} {P : Fact}, Live W Ps U → Ps[i]? = some P → ∃ S : Nat → Prop, (∀ k, S k → U k) ∧ P S W
  | [], _, _, _, _, hi => by simp at hi
  | Q :: Ps, U, 0, P, ⟨S, h1, h2, _⟩, hi => by
    obtain rfl : Q = P := by simpa using hi
    exact ⟨S, h1, h2.now⟩
  | _ :: Ps, U, i + 1, P, ⟨S, h1, _, h3⟩, hi => by
    obtain ⟨S', h4, h5⟩ := Live.get h3 (i := i) (P := P) (by simpa using hi)
    exact ⟨S', fun k hk => (h4 k hk).1, h5⟩
theorem Live.write {W : World} : ∀ {Ps : List Fact} {U : Nat → Prop} {i : Nat} {P : Fact}, Live W Ps U → Ps[i]? = some P →
    ∃ S : Nat → Prop, (∀ k, S k → U k) ∧ Foot (P S) W S ∧ ∀ (W' : World) (P' : Fact), (∀ k, U k → ¬ S k → W'.heap[k]? = W.heap[k]?) → Foot (P' S) W' S → Live W' (Ps.set i P') U
  | [], _, _, _, _, hi => by simp at hi
  | Q :: Ps, U, 0, P, ⟨S, h1, h2, h3⟩, hi => by
    obtain rfl : Q = P := by simpa using hi
    exact ⟨S, h1, h2, fun W' P' hm hf => ⟨S, h1, hf, h3.step (fun k hk => hm k hk.1 hk.2)⟩⟩
  | Q :: Ps, U, i + 1, P, ⟨S0, h1, h2, h3⟩, hi => by
    obtain ⟨S, h4, h5, h6⟩ := Live.write h3 (i := i) (P := P) (by simpa using hi)
    exact ⟨S, fun k hk => (h4 k hk).1, h5, fun W' P' hm hf => ⟨S0, h1, h2.step (fun k hk _ => hm k (h1 k hk) (fun h => (h4 k h).2 hk)), h6 W' P' (fun k hk hn => hm k hk.1 hn) hf⟩⟩
/-- W is w, grown, and the facts hold of it, each in blocks that were made since. -/
structure Inv (w W : World) (Ps : List Fact) : Prop where
  bel : Below w.heap.size w W
  live : Live W Ps (fun k => w.heap.size ≤ k ∧ k < W.heap.size)
/-- A row, a row of rows, a block that is known whole. -/
def rowF {α : Type} (d : Kd α) (e base : Nat) (v : Value) (xs : List α) : Fact := fun S W => Kd.R d e W base S v xs
def rowsF {α : Type} (d : Kd α) (e base : Nat) (v : Value) (xs : List α) : Fact := fun S W => Kd.S d e W base S v xs
def boxF (g : Nat) (cs : Array Value) (t : TypeId) : Fact := fun S W => S g ∧ W.heap[g]? = some (.cells cs t (0, 0))
/-- Nothing (what was told is not told any more). -/
def noF : Fact := fun _ _ => True
section
variable {w W W' : World} {Ps : List Fact} {P : Fact} {i : Nat}
theorem Inv.refl (w : World) : Inv w w [] := ⟨Below.refl _ _, trivial⟩
theorem Inv.below (h : Inv w W Ps) (hb : Below W.heap.size W W') : Inv w W' Ps :=
  ⟨h.bel.trans (hb.mono h.bel.size), (h.live.step (fun k hk => hb.block k hk.2)).mono (fun k hk => ⟨hk.1, Nat.lt_of_lt_of_le hk.2 hb.size⟩)⟩
theorem Inv.drew (h : Inv w W Ps) : Inv w W.drew Ps := h.below (below_drew (Below.refl _ _))
theorem Inv.drewN (h : Inv w W Ps) (n : Nat) : Inv w (W.drewN n) Ps := h.below (pw_below_drewN (Below.refl _ _) n)
theorem Inv.tail (h : Inv w W (P :: Ps)) : Inv w W Ps := ⟨h.bel, by obtain ⟨S, _, _, h3⟩ := h.live; exact h3.mono (fun k hk => hk.1)⟩
theorem Inv.get (h : Inv w W Ps) (i : Nat) {P : Fact} (hi : Ps[i]? = some P) : ∃ S : Nat → Prop, (∀ k, S k → w.heap.size ≤ k ∧ k < W.heap.size) ∧ P S W := h.live.get hi
theorem Inv.push (h : Inv w W Ps) (hb : Below W.heap.size W W') (hf : Foot (P (fun k => W.heap.size ≤ k ∧ k < W'.heap.size)) W' (fun k => W.heap.size ≤ k ∧ k < W'.heap.size)) : Inv w W' (P :: Ps) := by
  refine ⟨(h.below hb).bel, _, fun k hk => ⟨Nat.le_trans h.bel.size hk.1, hk.2⟩, hf, ?_⟩
  exact (h.live.step (fun k hk => hb.block k hk.2)).mono (fun k hk => ⟨⟨hk.1, Nat.lt_of_lt_of_le hk.2 hb.size⟩, fun h2 => Nat.not_lt_of_le h2.1 hk.2⟩)
theorem Inv.write (h : Inv w W Ps) (i : Nat) (hi : Ps[i]? = some P) : ∃ S : Nat → Prop, (∀ k, S k → w.heap.size ≤ k ∧ k < W.heap.size) ∧ Foot (P S) W S ∧
    ∀ (W' : World) (P' : Fact), Below w.heap.size w W' → Kept W W' S → Foot (P' S) W' S → Inv w W' (Ps.set i P') := by
  obtain ⟨S, h1, h2, h3⟩ := h.live.write hi
  refine ⟨S, h1, h2, fun W' P' hb hk hf => ⟨hb, (h3 W' P' (fun k hu hn => hk.2 k hu.2 hn) hf).mono (fun k hk2 => ⟨hk2.1, Nat.lt_of_lt_of_le hk2.2 hk.1⟩)⟩⟩
theorem foot_row {α : Type} {d : Kd α} {e base : Nat} {S : Nat → Prop} {v : Value} {xs : List α} (h : Kd.R d e W base S v xs) : Foot (rowF d e base v xs S) W S := fun _ hW => Kd.R_step h hW
theorem foot_rows {α : Type} {d : Kd α} {e base : Nat} {S : Nat → Prop} {v : Value} {xs : List α} (h : Kd.S d e W base S v xs) : Foot (rowsF d e base v xs S) W S := fun _ hW => Kd.S_step h hW
theorem foot_box {g : Nat} {cs : Array Value} {t : TypeId} {S : Nat → Prop} (hs : S g) (h : W.heap[g]? = some (.cells cs t (0, 0))) : Foot (boxF g cs t S) W S := fun _ hW => ⟨hs, (hW g hs (blk_lt h)).trans h⟩
theorem foot_no (W : World) (S : Nat → Prop) : Foot (noF S) W S := fun _ _ => trivial
/-- A new row. -/
theorem Inv.row {α : Type} {d : Kd α} {e : Nat} {v : Value} {xs : List α} (h : Inv w W Ps) (hr : Kd.R d e W' W.heap.size (fun _ => True) v xs) (hb : Below W.heap.size W W') : Inv w W' (rowF d e w.heap.size v xs :: Ps) :=
  h.push hb (foot_row (Kd.R_mono (Kd.R_lower (Kd.R_bound hr) h.bel.size) (fun k hk => ⟨hk.2.1, hk.2.2.1⟩)))
theorem Inv.rows {α : Type} {d : Kd α} {e : Nat} {v : Value} {xs : List α} (h : Inv w W Ps) (hr : Kd.S d e W' W.heap.size (fun _ => True) v xs) (hb : Below W.heap.size W W') : Inv w W' (rowsF d e w.heap.size v xs :: Ps) :=
  h.push hb (foot_rows (Kd.S_mono (Kd.S_lower (Kd.S_bound hr) h.bel.size) (fun k hk => ⟨hk.2.1, hk.2.2.1⟩)))
/-- A new block. -/
theorem Inv.box (h : Inv w W Ps) (cs : Array Value) (t : TypeId) : Inv w (W.alloc (.cells cs t)) (boxF W.heap.size cs t :: Ps) :=
  h.push (below_alloc (Below.refl _ _) _) (foot_box ⟨Nat.le_refl _, by simp⟩ (blk_new _ _))
/-- A store into a block. -/
theorem Inv.set {g : Nat} {cs : Array Value} {t : TypeId} (h : Inv w W Ps) (i : Nat) (hi : Ps[i]? = some (boxF g cs t)) (j : Nat) (u : Value) : Inv w (W.setCell ⟨g, j, none⟩ u) (Ps.set i (boxF g (cs.setIfInBounds j u) t)) := by
  obtain ⟨S, h1, h2, h3⟩ := h.write i hi
  obtain ⟨hs, hb⟩ := h2.now
  have hk : Kept W (W.setCell ⟨g, j, none⟩ u) S := (Kept.refl W S).setCell (p := ⟨g, j, none⟩) (.inl hs) u
  exact h3 _ _ (h.bel.trans ⟨rfl, rfl, rfl, hk.1, fun k hk2 => Below.heap_setCell W ⟨g, j, none⟩ u k (fun e => by have := h1 g hs; simp at e; omega)⟩) hk (foot_box hs (blk_set hb j u))
theorem Inv.blk {g : Nat} {cs : Array Value} {t : TypeId} (h : Inv w W Ps) (i : Nat) (hi : Ps[i]? = some (boxF g cs t)) : W.heap[g]? = some (.cells cs t (0, 0)) := by
  obtain ⟨S, _, h2⟩ := h.get i hi
  exact h2.2
theorem Inv.cell {g : Nat} {cs : Array Value} {t : TypeId} (h : Inv w W Ps) (i : Nat) (hi : Ps[i]? = some (boxF g cs t)) (j : Nat) {u : Value} (hj : cs[j]? = some u) : W.cell? ⟨g, j, none⟩ = some u := (blk_cell (h.blk i hi) j).trans hj
theorem Inv.free {g : Nat} {cs : Array Value} {t : TypeId} (h : Inv w W Ps) (i : Nat) (hi : Ps[i]? = some (boxF g cs t)) (j : Nat) : W.frozen? ⟨g, j, none⟩ = false := blk_frozen (h.blk i hi) j
/-- What a row reads as. -/
theorem Inv.reads {α : Type} {d : Kd α} {e base : Nat} {A : Option Addr} {n c : Nat} {xs : List α} (h : Inv w W Ps) (i : Nat) (hi : Ps[i]? = some (rowF d e base (.slice A n c) xs)) : n = xs.length ∧ n ≤ c ∧ Kd.C d W A xs.length xs := by
  obtain ⟨S, _, h2⟩ := h.get i hi
  exact Kd.R_reads' h2
theorem Inv.readss {α : Type} {d : Kd α} {e base : Nat} {A : Option Addr} {n c : Nat} {xs : List α} (h : Inv w W Ps) (i : Nat) (hi : Ps[i]? = some (rowsF d e base (.slice A n c) xs)) : n = xs.length ∧ n ≤ c ∧ Kd.C d W A xs.length xs := by
  obtain ⟨S, _, h2⟩ := h.get i hi
  exact Kd.S_reads' h2
theorem Inv.slice {α : Type} {d : Kd α} {e base : Nat} {v : Value} {xs : List α} (h : Inv w W Ps) (i : Nat) (hi : Ps[i]? = some (rowF d e base v xs)) : ∃ A c, v = .slice A xs.length c := by
  obtain ⟨S, _, h2⟩ := h.get i hi
  exact Kd.R_slice h2
theorem Inv.slices {α : Type} {d : Kd α} {e base : Nat} {v : Value} {xs : List α} (h : Inv w W Ps) (i : Nat) (hi : Ps[i]? = some (rowsF d e base v xs)) : ∃ A c, v = .slice A xs.length c := by
  obtain ⟨S, _, h2⟩ := h.get i hi
  exact Kd.S_slice h2
theorem Inv.cR {α : Type} {d : Kd α} {e base : Nat} {A : Option Addr} {c : Nat} {xs : List α} (h : Inv w W Ps) (i : Nat) (hi : Ps[i]? = some (rowF d e base (.slice A xs.length c) xs)) : Kd.C d W A xs.length xs := (h.reads i hi).2.2
theorem Inv.lR {α : Type} {d : Kd α} {e base : Nat} {A : Option Addr} {c : Nat} {xs : List α} (h : Inv w W Ps) (i : Nat) (hi : Ps[i]? = some (rowF d e base (.slice A xs.length c) xs)) : xs.length ≤ c := (h.reads i hi).2.1
theorem Inv.cS {α : Type} {d : Kd α} {e base : Nat} {A : Option Addr} {c : Nat} {xs : List α} (h : Inv w W Ps) (i : Nat) (hi : Ps[i]? = some (rowsF d e base (.slice A xs.length c) xs)) : Kd.C d W A xs.length xs := (h.readss i hi).2.2
theorem Inv.lS {α : Type} {d : Kd α} {e base : Nat} {A : Option Addr} {c : Nat} {xs : List α} (h : Inv w W Ps) (i : Nat) (hi : Ps[i]? = some (rowsF d e base (.slice A xs.length c) xs)) : xs.length ≤ c := (h.readss i hi).2.1
/-- A row of a plain kind is written by a call. -/
theorem Inv.mark {α : Type} {d : Kd α} {e : Nat} {v : Value} {xs ys : List α} {P : Program} {f : FuncId} {args : Array Value} {u : Value} (h : Inv w W Ps) (i : Nat) (hi : Ps[i]? = some (rowF d e w.heap.size v xs)) (hE : d.E = [])
    (hc : ∀ S, Kd.R d e W w.heap.size S v xs → Calls P f args W fun en w' => en = .returned u ∧ Kd.R d e w' w.heap.size (fun k => S k ∨ W.heap.size ≤ k) v ys ∧ Below w.heap.size w w' ∧ Kept W w' (fun k => S k)) :
    Calls P f args W fun en w' => en = .returned u ∧ Inv w w' (Ps.set i (rowF d e w.heap.size v ys)) := by
  obtain ⟨S, h1, h2, h3⟩ := h.write i hi
  refine (hc S h2.now).mono ?_
  rintro en w' ⟨rfl, hr, hb, hk⟩
  exact ⟨rfl, h3 _ _ hb hk (foot_row (Kd.R_mono (Kd.R_tight hE hr) (fun k hk2 => h2.now.1 k hk2.symm)))⟩
/-- A row of rows is written by a call. -/
theorem Inv.marks {α : Type} {d : Kd α} {e : Nat} {v : Value} {xs : List α} {P : Program} {f : FuncId} {args : Array Value} {u : Value} (h : Inv w W Ps) (i : Nat) (hi : Ps[i]? = some (rowsF d e w.heap.size v xs))
    (hc : ∀ S, Kd.S d e W w.heap.size S v xs → Calls P f args W fun en w' => en = .returned u ∧ Below w.heap.size w w' ∧ Kept W w' (fun k => S k)) :
    Calls P f args W fun en w' => en = .returned u ∧ Inv w w' (Ps.set i noF) := by
  obtain ⟨S, h1, h2, h3⟩ := h.write i hi
  refine (hc S h2.now).mono ?_
  rintro en w' ⟨rfl, hb, hk⟩
  exact ⟨rfl, h3 _ _ hb hk (foot_no _ _)⟩
end
end Go.Proofs.Ytkifenbcepicjaa.Lv
namespace Go.Proofs.Ytkifenbcepicjaa.Rg
open Go.RowKit
set_option linter.unusedVariables false
set_option linter.unusedSimpArgs false
inductive St where
  | take (i : Nat)
  | one (i : Nat)
def okSeq (ops : Array Oper) : List St → Array Bool → Bool
  | [], l => Region.ready .any ops l == []
  | .take i :: r, l => Region.free .any ops l i && (Region.ready .any ops l).contains i && okSeq ops r (l.setIfInBounds i true)
  | .one i :: r, l => (Region.ready .any ops l == [i]) && okSeq ops r (l.setIfInBounds i true)
/-- The steps in their order. -/
def SeqW (P : Program) (ops : Array Oper) (Q : Exit → Act → World → Prop) (S : World → Prop) : List St → Act → World → Prop
  | [], a, w => Q .normal a w
  | .take i :: r, a, w => ∃ o v, ops[i]? = some o ∧ YieldsIf P ops S o v a ∧ SeqW P ops Q S r (a.put o.dst v) w
  | .one i :: r, a, w => wpOp P ops Q i (fun a' w' => S w' ∧ SeqW P ops Q S r a' w') a w
section
variable {P : Program} {ops : Array Oper} {Q : Exit → Act → World → Prop} {S : World → Prop}
theorem seq_any (hs : Region.noSelect ops = true) (hQ : ∀ (c : _) (a : Act) (d : Option Tmp) (v : Value) (w : World), Q (.panic c) (a.put d v) w → Q (.panic c) a w) : ∀ (r : List St) (fuel : Nat) (l : Array Bool) (a : Act) (w : World),
    r.length ≤ fuel → okSeq ops r l = true → S w → SeqW P ops Q S r a w → wpAnyH P .any ops Q S fuel l a w
  | [], fuel, l, a, w, _, hok, _, h => wpAnyH_done (by simpa [okSeq] using hok) h fuel
  | .take i :: r, 0, _, _, _, hf, _, _, _ => by simp at hf
  | .take i :: r, fuel + 1, l, a, w, hf, hok, hS, h => by
    obtain ⟨o, v, ho, hy, h⟩ := h
    simp only [okSeq, Bool.and_eq_true] at hok
    exact wpAnyH_take (i := i) ho hs hok.1.1 hok.1.2 (fun c a w => hQ c a _ _ w) hy hS (seq_any hs hQ r fuel _ _ _ (by simpa using hf) hok.2 hS h)
  | .one i :: r, 0, _, _, _, hf, _, _, _ => by simp at hf
  | .one i :: r, fuel + 1, l, a, w, hf, hok, hS, h => by
    simp only [okSeq, Bool.and_eq_true, beq_iff_eq] at hok
    refine wpAnyH_all (rs := [i]) hok.1 (by simp) (fun j hj => ?_)
    obtain rfl : j = i := by simpa using hj
    exact wpOp_mono (fun a' w' hq => ⟨hq.1, seq_any hs hQ r fuel _ _ _ (by simpa using hf) hok.2 hq.1 hq.2⟩) h
def idx : St → Nat
  | .take i => i
  | .one i => i
/-- A region that does not draw: its operations in the order of the text. -/
theorem seq_list : ∀ (r : List St) (a : Act) (w : World), S w → SeqW P ops Q S r a w → wpOps P ops Q (r.map idx) a w
  | [], _, _, _, h => h
  | .take i :: r, a, w, hS, h => by
    obtain ⟨o, v, ho, hy, h⟩ := h
    rw [List.map_cons, wpOps_cons]
    exact hy.wpOp ho hS (seq_list r _ _ hS h)
  | .one i :: r, a, w, hS, h => by
    rw [List.map_cons, wpOps_cons]
    exact wpOp_mono (fun a' w' hq => seq_list r a' w' hq.1 hq.2) h
theorem startL {id : Nat} {a : Act} {w : World} (r : List St) (hr : r.map idx = List.range ops.size) (hS : S w) (h : SeqW P ops Q S r a w) : (Code.region id ops false).wp P Q a w :=
  wp_region (by rw [← hr]; exact seq_list r a w hS h)
/-- The beginning. -/
theorem start {id : Nat} {a : Act} {w : World} (r : List St) (hm : P.follows .mixedOrders = true) (hs : Region.noSelect ops = true) (hl : r.length ≤ ops.size) (hok : okSeq ops r (Array.replicate ops.size false) = true)
    (hS : S w.drew) (h : SeqW P ops (NoPanic Q) S r a w.drew) : (Code.region id ops true).wp P Q a w :=
  wp_region_noPanic (wp_region_held_drew (S := S) hm hS (fun hS => seq_any hs (fun _ _ _ _ _ h => h) r _ _ _ _ hl hok hS h))
theorem take {i : Nat} (N : Option Tmp) {r : List St} {a : Act} {w : World} {o : Oper} {v : Value} (ho : ops[i]? = some o) (hN : o.dst = N) (hy : YieldsIf P ops S o v a) (h : SeqW P ops Q S r (a.put N v) w) : SeqW P ops Q S (.take i :: r) a w := by
  subst hN
  exact ⟨o, v, ho, hy, h⟩
/-- A call of a Go function. -/
theorem call {i : Nat} (N : Option Tmp) {r : List St} {a : Act} {w : World} {o : Oper} {f : FuncId} {fn : Func} {xs : Array Operand} {ts : Array TypeId} (hf : P.funcs[f]? = some fn) (hname : (fn.name == "runtime.NumGoroutine") = false) (hb : fn.body.isSome = true) (args : Array Value) (ho : ops[i]? = some o) (hN : o.dst = N)
    (hop : o.op = .call { callee := .value (.func f), args := xs, argTypes := ts }) (hw : Region.wanted o (yielded ops a.tmps) = true) (hargs' : xs.toList.map a.eval = args.toList)
    (h : Calls P f args w fun e w' => ∃ v, e = .returned v ∧ S w' ∧ SeqW P ops Q S r (a.put N v) w') : SeqW P ops Q S (.one i :: r) a w := by
  subst hN
  have hargs : xs.map a.eval = args := by
    apply Array.toList_inj.1
    rw [Array.toList_map]
    exact hargs'
  show wpOp P ops Q i _ a w
  unfold wpOp
  simp only [ho, hw, if_true]
  refine .inl ?_
  unfold Oper.wp
  have he : ∀ args w, (callFunc f args).run P w = .ok (.enter f args) w := by
    intro args w
    have h1 : fn.name ≠ "runtime.NumGoroutine" := by simpa using hname
    cases hb' : fn.body with
    | none => rw [hb'] at hb; cases hb
    | some c => simp [callFunc, hf, h1, hb']
  have hrun : (execOp a.eval o).run P w = .ok (.enter f args) w := by
    unfold execOp
    simp [hop, resolve, Deferred.ofValue, invoke, Act.eval, hargs, he]
  rw [hrun, Oper.upon_enter]
  refine h.mono ?_
  rintro e w' ⟨v, rfl, hS, hq⟩
  exact ⟨hS, hq⟩
/-- What is no call, in a step of its own: it yields its value in the world at hand, and is the only one that may come up. -/
theorem step {i : Nat} (N : Option Tmp) {r : List St} {a : Act} {w w' : World} {o : Oper} (v : Value) (ho : ops[i]? = some o) (hN : o.dst = N) (hw : Region.wanted o (yielded ops a.tmps) = true) (hrun : (execOp a.eval o).run P w = .ok (.value v) w') (hS : S w') (h : SeqW P ops Q S r (a.put N v) w') : SeqW P ops Q S (.one i :: r) a w := by
  subst hN
  show wpOp P ops Q i _ a w
  unfold wpOp
  simp only [ho, hw, if_true]
  refine .inl ?_
  unfold Oper.wp
  rw [hrun, Oper.upon_value]
  exact ⟨hS, h⟩
/-- An operation in a step of its own, told by its own rule. -/
theorem oneK {i : Nat} {r : List St} {a : Act} {w : World} {o : Oper} (ho : ops[i]? = some o) (h : ∀ K : Act → World → Prop, Shut (∀ a' w', S w' → SeqW P ops Q S r a' w' → K a' w') → if Region.wanted o (yielded ops a.tmps) = true then Oper.wp P o a w K Q else K (a.put o.dst undef) w) : SeqW P ops Q S (.one i :: r) a w := by
  have h1 := h (fun a' w' => S w' ∧ SeqW P ops Q S r a' w') (show Shut _ from fun a' w' hs hq => ⟨hs, hq⟩)
  show wpOp P ops Q i _ a w
  unfold wpOp
  simp only [ho]
  split
  · rename_i hw
    rw [if_pos hw] at h1
    exact .inl h1
  · rename_i hw
    rw [if_neg hw] at h1
    exact h1
theorem done {a : Act} {w : World} (h : Q .normal a w) : SeqW P ops (NoPanic Q) S [] a w := NoPanic.normal h
theorem doneL {a : Act} {w : World} (h : Q .normal a w) : SeqW P ops Q S [] a w := h
end
end Go.Proofs.Ytkifenbcepicjaa.Rg
namespace Go.Proofs.Ytkifenbcepicjaa.Fl
open Go.RowKit Go.Proofs.YtkifenbcepicjaaW.PrintWords Go.Proofs.YtkifenbcepicjaaW.PrintLast Go.Proofs.Ytkifenbcepicjaa.Lv Go.Proofs.Ytkifenbcepicjaa.Rg
set_option linter.unusedVariables false
set_option linter.unusedSimpArgs false
theorem z1 {α : Type} {xs : List α} {i : Nat} {a : α} : xs.toArray.setIfInBounds i a = (xs.set i a).toArray := List.setIfInBounds_toArray ..
theorem z2 {α : Type} {x a : α} {xs : List α} : (x :: xs).set 0 a = a :: xs := List.set_cons_zero ..
theorem z3 {α : Type} {x a : α} {xs : List α} {n : Nat} : (x :: xs).set (n + 1) a = x :: xs.set n a := List.set_cons_succ ..
/-- A new variable: its operation, its temporary, what lies in its block at first. -/
structure Var where
  i : Nat
  N : Tmp
  cs : Array Value
  t : TypeId
def putD : List Var → List (Option Nat) → Act → Act
  | f :: fs, some g :: gs, a => (putD fs gs a).put (some f.N) (.pointer (some ⟨g, 0, none⟩))
  | _ :: fs, none :: gs, a => putD fs gs a
  | _, _, a => a
def boxes : List Var → List (Option Nat) → List Fact
  | f :: fs, some g :: gs => boxF g f.cs f.t :: boxes fs gs
  | _ :: fs, none :: gs => boxes fs gs
  | _, _ => []
def left : List Var → List (Option Nat) → List Nat
  | _ :: fs, some _ :: gs => left fs gs
  | f :: fs, none :: gs => f.i :: left fs gs
  | _, _ => []
def upd : List Var → List (Option Nat) → Nat → Nat → List (Option Nat)
  | f :: fs, none :: gs, j, g => if f.i = j then some g :: gs else none :: upd fs gs j g
  | _ :: fs, some x :: gs, j, g => some x :: upd fs gs j g
  | _, gs, _, _ => gs
theorem upd_length : ∀ (fs : List Var) (gs : List (Option Nat)) (j g : Nat), (upd fs gs j g).length = gs.length
  | [], _, _, _ => rfl
  | _ :: _, [], _, _ => rfl
  | f :: fs, none :: gs, j, g => by
    simp only [upd]
    split
    · rfl
    · simp [upd_length fs gs j g]
  | _ :: fs, some x :: gs, j, g => by simp [upd, upd_length fs gs j g]
theorem left_upd : ∀ (fs : List Var) (gs : List (Option Nat)) (j g : Nat), left fs (upd fs gs j g) = (left fs gs).erase j
  | [], _, _, _ => by simp [left]
  | _ :: _, [], _, _ => by simp [upd, left]
  | f :: fs, none :: gs, j, g => by
    simp only [upd]
    split
    · rename_i h; simp [left, h]
    · rename_i h; simp [left, left_upd fs gs j g, List.erase_cons, h]
  | _ :: fs, some x :: gs, j, g => by simp [upd, left, left_upd fs gs j g]
theorem boxes_mem : ∀ (fs : List Var) (gs : List (Option Nat)) (j g : Nat) (a : Act), (fs.map (·.N)).Nodup → j ∈ left fs gs → ∃ f ∈ fs, f.i = j ∧ putD fs (upd fs gs j g) a = (putD fs gs a).put (some f.N) (.pointer (some ⟨g, 0, none⟩)) ∧ (boxF g f.cs f.t :: boxes fs gs).Perm (boxes fs (upd fs gs j g))
  | [], _, _, _, _, _, hj => by simp [left] at hj
  | _ :: _, [], _, _, _, _, hj => by simp [left] at hj
  | f :: fs, none :: gs, j, g, a, hn, hj => by
    simp only [upd]
    split
    · rename_i h; exact ⟨f, List.mem_cons_self, h, rfl, List.Perm.refl _⟩
    · rename_i h
      have hj2 : j ∈ left fs gs := by
        rcases List.mem_cons.1 (show j ∈ f.i :: left fs gs from hj) with h1 | h1
        · exact absurd h1.symm h
        · exact h1
      obtain ⟨f2, h1, h2, h3, h4⟩ := boxes_mem fs gs j g a (List.nodup_cons.1 hn).2 hj2
      exact ⟨f2, List.mem_cons_of_mem _ h1, h2, h3, h4⟩
  | f :: fs, some x :: gs, j, g, a, hn, hj => by
    obtain ⟨f2, h1, h2, h3, h4⟩ := boxes_mem fs gs j g a (List.nodup_cons.1 hn).2 hj
    refine ⟨f2, List.mem_cons_of_mem _ h1, h2, ?_, (List.Perm.swap _ _ _).trans (h4.cons _)⟩
    simp only [upd, putD, h3]
    refine Act.put_comm _ _ _ (fun d hd => ?_)
    have hne : f.N ≠ f2.N := fun e => (List.nodup_cons.1 hn).1 (List.mem_map.2 ⟨f2, h1, e.symm⟩)
    injection hd with hd
    subst hd
    intro e
    injection e with e
    exact hne e
/-- Live facts in whatever order. -/
theorem live_perm {W : World} {Ps Qs : List Fact} (h : Ps.Perm Qs) : ∀ {U : Nat → Prop}, Live W Ps U → Live W Qs U := by
  induction h with
  | nil => intro U h; exact h
  | cons P _ ih => intro U ⟨S, h1, h2, h3⟩; exact ⟨S, h1, h2, ih h3⟩
  | swap P Q l =>
    intro U ⟨S, h1, h2, S', h4, h5, h6⟩
    exact ⟨S', fun k hk => (h4 k hk).1, h5, S, fun k hk => ⟨h1 k hk, fun hk2 => (h4 k hk2).2 hk⟩, h2, h6.mono (fun k hk => ⟨⟨hk.1.1, hk.2⟩, hk.1.2⟩)⟩
  | trans _ _ ih1 ih2 => intro U h; exact ih2 (ih1 h)
theorem inv_perm {w W : World} {Ps Qs : List Fact} (h : Inv w W Ps) (hp : Ps.Perm Qs) : Inv w W Qs := ⟨h.bel, live_perm hp h.live⟩
theorem inv_drop {w W : World} {Ps : List Fact} : ∀ {N : List Fact}, Inv w W (N ++ Ps) → Inv w W Ps
  | [], h => h
  | _ :: _, h => inv_drop h.tail
section
variable {P : Program} {ops : Array Oper} {Q : Exit → Act → World → Prop}
theorem wpOp_put_rev {j : Nat} {oj : Oper} {d : Option Tmp} {v : Value} (hj : ops[j]? = some oj) (h1 : ∀ x, d = some x → x ∉ oj.looksAt ops) (h2 : ∀ x, d = some x → oj.dst ≠ some x)
    (hsj : ∀ cs b, oj.op ≠ .select cs b) (hQ : ∀ c a w, Q (.panic c) a w → Q (.panic c) (a.put d v) w) {K : Act → World → Prop} {a : Act} {w : World}
    (h : wpOp P ops Q j (fun a' w' => K (a'.put d v) w') a w) : wpOp P ops Q j K (a.put d v) w := by
  unfold wpOp at *
  simp only [hj] at *
  rw [wanted_put oj a d v h1]
  split
  · rename_i hw
    simp only [hw, if_true] at h
    rcases h with h | ⟨hasks, hlets⟩
    case inr => exact .inr ⟨by unfold Oper.asks at *; rw [execOp_put oj hsj a d v h1]; exact hasks, hlets⟩
    refine .inl ?_
    unfold Oper.wp at *
    rw [execOp_put oj hsj a d v h1]
    generalize (execOp a.eval oj).run P w = r at *
    cases r with
    | ok n w' =>
      cases n <;> simp only [Oper.upon] at h ⊢
      case value u => rw [Act.put_comm a v u h2]; exact h
      case skip => rw [Act.put_comm a v undef h2]; exact h
      case defer q =>
        have h3 := Act.put_comm { a with defers := q :: a.defers } v undef h2
        have h4 : ({ (a.put d v) with defers := q :: (a.put d v).defers } : Act) = ({ a with defers := q :: a.defers } : Act).put d v := by cases d <;> rfl
        rw [h4, h3]
        exact h
      case enter f args =>
        refine Calls.mono h fun e w'' he => ?_
        cases e with
        | returned u => (show K ((a.put d v).put oj.dst u) w''); rw [Act.put_comm a v u h2]; exact he
        | panicked c => exact hQ _ _ _ he
        | outgrown => exact he
      case row row args => exact Rows.mono h fun u w'' he => by rw [Act.put_comm a v u h2]; exact he
    | halt x w' =>
      cases x <;> simp only [Oper.upon] at h ⊢
      case panic u => exact hQ _ _ _ h
  · rename_i hw
    simp only [hw] at h
    rw [Act.put_comm a v undef h2]
    exact h
/-- Which is apart from the variables' operations? -/
def apartB (ops : Array Oper) (fs : List Var) (chain : List St) : Bool :=
  fs.all fun f => match ops[f.i]? with
    | none => false
    | some o => (o.dst == some f.N) && chain.all fun s => match ops[idx s]? with
      | none => false
      | some oj => o.apart ops oj
theorem apart_of {fs : List Var} {chain : List St} (h : apartB ops fs chain = true) {f : Var} (hf : f ∈ fs) {s : St} (hs : s ∈ chain) {oj : Oper} (hj : ops[idx s]? = some oj) :
    f.N ∉ oj.looksAt ops ∧ oj.dst ≠ some f.N := by
  have h1 := List.all_eq_true.1 h f hf
  cases ho : ops[f.i]? with
  | none => rw [ho] at h1; exact absurd h1 (by simp)
  | some o =>
    rw [ho] at h1
    simp only [Bool.and_eq_true, beq_iff_eq] at h1
    have h2 := List.all_eq_true.1 h1.2 s hs
    rw [hj] at h2
    obtain ⟨h3, h4, _⟩ := Oper.apart_spec h2
    exact ⟨h3 _ h1.1, h4 _ h1.1⟩
theorem wpOp_putD {j : Nat} {oj : Oper} (hj : ops[j]? = some oj) (hsj : ∀ cs b, oj.op ≠ .select cs b) (hQ : ∀ (c : _) (a : Act) (d : Option Tmp) (v : Value) (w : World), Q (.panic c) a w → Q (.panic c) (a.put d v) w) {a : Act} {w : World} :
    ∀ (fs : List Var) (gs : List (Option Nat)) {K : Act → World → Prop}, (∀ f ∈ fs, f.N ∉ oj.looksAt ops ∧ oj.dst ≠ some f.N) → wpOp P ops Q j (fun a' w' => K (putD fs gs a') w') a w → wpOp P ops Q j K (putD fs gs a) w
  | [], _, _, _, h => h
  | _ :: _, [], _, _, h => h
  | f :: fs, none :: gs, _, ha, h => wpOp_putD hj hsj hQ fs gs (fun f2 h2 => ha f2 (List.mem_cons_of_mem _ h2)) h
  | f :: fs, some g :: gs, _, ha, h => by
    have hf := ha f List.mem_cons_self
    refine wpOp_put_rev hj (fun x hx => by injection hx with hx; subst hx; exact hf.1) (fun x hx => by injection hx with hx; subst hx; exact hf.2) hsj (fun c a w hq => hQ c a _ _ w hq) ?_
    exact wpOp_putD hj hsj hQ fs gs (fun f2 h2 => ha f2 (List.mem_cons_of_mem _ h2)) h
theorem yields_putD {S : World → Prop} {o : Oper} {v : Value} (hs : ∀ cs b, o.op ≠ .select cs b) {a : Act} : ∀ (fs : List Var) (gs : List (Option Nat)), (∀ f ∈ fs, f.N ∉ o.looksAt ops ∧ o.dst ≠ some f.N) → YieldsIf P ops S o v a → YieldsIf P ops S o v (putD fs gs a)
  | [], _, _, h => h
  | _ :: _, [], _, h => h
  | f :: fs, none :: gs, ha, h => yields_putD hs fs gs (fun f2 h2 => ha f2 (List.mem_cons_of_mem _ h2)) h
  | f :: fs, some g :: gs, ha, h => by
    have hf := ha f List.mem_cons_self
    have hn : ∀ d, some f.N = some d → d ∉ o.looksAt ops := fun x hx => by injection hx with hx; subst hx; exact hf.1
    exact (yields_putD hs fs gs (fun f2 h2 => ha f2 (List.mem_cons_of_mem _ h2)) h).of_same (execOp_put o hs _ _ _ hn) (wanted_put o _ _ _ hn)
theorem putD_put {d : Option Tmp} {v : Value} {a : Act} : ∀ (fs : List Var) (gs : List (Option Nat)), (∀ f ∈ fs, d ≠ some f.N) → (putD fs gs a).put d v = putD fs gs (a.put d v)
  | [], _, _ => rfl
  | _ :: _, [], _ => rfl
  | f :: fs, none :: gs, ha => putD_put fs gs (fun f2 h2 => ha f2 (List.mem_cons_of_mem _ h2))
  | f :: fs, some g :: gs, ha => by
    simp only [putD]
    rw [Act.put_comm _ _ _ (fun x hx => by injection hx with hx; subst hx; exact ha f List.mem_cons_self), putD_put fs gs (fun f2 h2 => ha f2 (List.mem_cons_of_mem _ h2))]
/-- The steps in their order, the variables' operations at any time. -/
def CW (P : Program) (ops : Array Oper) (Q : Exit → Act → World → Prop) (w0 : World) (Ps : List Fact) (Fin : List Fact → Act → Prop) : List St → List Fact → Act → Prop
  | [], N, a => Fin N a
  | .take i :: r, N, a => ∃ o v, ops[i]? = some o ∧ YieldsIf P ops (fun W => Inv w0 W Ps) o v a ∧ CW P ops Q w0 Ps Fin r N (a.put o.dst v)
  | .one i :: r, N, a => ∀ (E : List Fact) (W : World), (∀ W', Inv w0 W' E → Inv w0 W' Ps) → Inv w0 W (N ++ E) → wpOp P ops Q i (fun a' W' => ∃ N', Inv w0 W' (N' ++ E) ∧ CW P ops Q w0 Ps Fin r N' a') a W
/-- What stands behind: all variables are made. -/
def FinW (P : Program) (ops : Array Oper) (Q : Exit → Act → World → Prop) (w0 : World) (Ps : List Fact) (fs : List Var) (rest : List St) : List Fact → Act → Prop := fun N a =>
  ∀ (gs : List Nat) (W : World), gs.length = fs.length → Inv w0 W (N ++ (boxes fs (gs.map some) ++ Ps)) → SeqW P ops Q (fun W => Inv w0 W Ps) rest (putD fs (gs.map some) a) W
abbrev Tab := List (List Nat × List Nat)
def okT (T : Tab) : List St → List Bool → Bool
  | [], l => readyT T l == []
  | .take i :: r, l => freeT T l i && (readyT T l).contains i && okT T r (l.set i true)
  | .one i :: r, l => (readyT T l == [i]) && okT T r (l.set i true)
theorem okT_seq : ∀ (r : List St) (l : Array Bool), okT (rtab .any ops).2 r l.toList = true → okSeq ops r l = true
  | [], l, h => by rw [okSeq, ready_eq]; exact h
  | .take i :: r, l, h => by
    simp only [okT, Bool.and_eq_true] at h
    simp only [okSeq, Bool.and_eq_true]
    rw [ready_eq, free_eq]
    exact ⟨⟨h.1.1, h.1.2⟩, okT_seq r _ (by rw [Array.toList_setIfInBounds]; exact h.2)⟩
  | .one i :: r, l, h => by
    simp only [okT, Bool.and_eq_true] at h
    simp only [okSeq, Bool.and_eq_true]
    rw [ready_eq]
    exact ⟨h.1, okT_seq r _ (by rw [Array.toList_setIfInBounds]; exact h.2)⟩
def okC (T : Tab) (rest : List St) : Nat → List St → List Nat → List Bool → Bool
  | 0, _, _, _ => false
  | n + 1, .take i :: r, rem, l => freeT T l i && (readyT T l).contains i && okC T rest n r rem (l.set i true)
  | n + 1, .one i :: r, rem, l => (readyT T l != []) && (readyT T l).all fun j => if j = i then okC T rest n r rem (l.set j true) else rem.contains j && okC T rest n (.one i :: r) (rem.erase j) (l.set j true)
  | n + 1, [], [], l => okT T rest l
  | n + 1, [], x :: rem, l => (readyT T l != []) && (readyT T l).all fun j => (x :: rem).contains j && okC T rest n [] ((x :: rem).erase j) (l.set j true)
def Makes (P : Program) (ops : Array Oper) (f : Var) : Prop :=
  ∃ o, ops[f.i]? = some o ∧ o.dst = some f.N ∧ (∀ y, Region.wanted o y = true) ∧ ∀ e w, (execOp e o).run P w = .ok (.value (.pointer (some ⟨w.heap.size, 0, none⟩))) (w.alloc (.cells f.cs f.t))
theorem left_nil : ∀ (fs : List Var) (gs : List (Option Nat)), gs.length = fs.length → left fs gs = [] → ∃ hs : List Nat, gs = hs.map some ∧ hs.length = fs.length
  | [], [], _, _ => ⟨[], rfl, rfl⟩
  | [], _ :: _, h, _ => by simp at h
  | _ :: _, [], h, _ => by simp at h
  | f :: fs, none :: gs, _, h => by simp [left] at h
  | f :: fs, some g :: gs, h, h2 => by
    obtain ⟨hs, h3, h4⟩ := left_nil fs gs (by simpa using h) h2
    exact ⟨g :: hs, by simp [h3], by simp [h4]⟩
theorem left_erase_length {l : List Nat} {j : Nat} (h : j ∈ l) : (l.erase j).length + 1 = l.length := by
  have := List.length_erase_of_mem h
  have := List.length_pos_of_mem h
  omega
theorem any_ {w0 : World} {Ps : List Fact} {fs : List Var} {rest : List St} (hs : Region.noSelect ops = true) (hQ : ∀ (c : _) (a : Act) (d : Option Tmp) (v : Value) (w : World), Q (.panic c) (a.put d v) w ↔ Q (.panic c) a w)
    (hn : (fs.map (·.N)).Nodup) (hm : ∀ f ∈ fs, Makes P ops f) : ∀ (n : Nat) (chain : List St) (N : List Fact) (a : Act) (gs : List (Option Nat)) (l : Array Bool) (fuel : Nat) (W : World),
    gs.length = fs.length → apartB ops fs chain = true → okC (rtab .any ops).2 rest n chain (left fs gs) l.toList = true → chain.length + (left fs gs).length + rest.length ≤ fuel → CW P ops Q w0 Ps (FinW P ops Q w0 Ps fs rest) chain N a → Inv w0 W (N ++ (boxes fs gs ++ Ps)) →
    wpAnyH P .any ops Q (fun W => Inv w0 W Ps) fuel l (putD fs gs a) W
  | 0, _, _, _, _, _, _, _, _, _, hok, _, _, _ => by simp [okC] at hok
  | n + 1, .take i :: r, N, a, gs, l, 0, W, _, _, _, hf, _, _ => by simp at hf
  | n + 1, .take i :: r, N, a, gs, l, fuel + 1, W, hl, hap, hok, hf, ⟨o, v, ho, hy, hc⟩, hi => by
    simp only [okC, Bool.and_eq_true] at hok
    have hap1 : ∀ f ∈ fs, f.N ∉ o.looksAt ops ∧ o.dst ≠ some f.N := fun f hf => apart_of hap hf List.mem_cons_self ho
    have hap2 : apartB ops fs r = true := by
      refine List.all_eq_true.2 (fun f hf => ?_)
      have h1 := List.all_eq_true.1 hap f hf
      split at h1
      · simp at h1
      · simp only [List.all_cons, Bool.and_eq_true] at h1 ⊢
        exact ⟨h1.1, h1.2.2⟩
    have hok2 : okC (rtab .any ops).2 rest n r (left fs gs) (l.setIfInBounds i true).toList = true := by rw [Array.toList_setIfInBounds]; exact hok.2
    refine wpAnyH_take (i := i) ho hs (by rw [free_eq]; exact hok.1.1) (by rw [ready_eq]; exact hok.1.2) (fun c a w => (hQ c a _ _ w).1) (yields_putD (Region.noSelect_spec hs i o · · ho) fs gs hap1 hy) (inv_drop (inv_drop hi)) ?_
    rw [putD_put fs gs (fun f hf => (hap1 f hf).2)]
    exact any_ hs hQ hn hm n r N _ gs _ fuel W hl hap2 hok2 (by simp at hf; omega) hc hi
  | n + 1, .one i :: r, N, a, gs, l, 0, W, _, _, _, hf, _, _ => by simp at hf
  | n + 1, .one i :: r, N, a, gs, l, fuel + 1, W, hl, hap, hok, hf, hc, hi => by
    simp only [okC, Bool.and_eq_true, bne_iff_ne, ne_eq] at hok
    have hap2 : apartB ops fs r = true := by
      refine List.all_eq_true.2 (fun f hf => ?_)
      have h1 := List.all_eq_true.1 hap f hf
      split at h1
      · simp at h1
      · simp only [List.all_cons, Bool.and_eq_true] at h1 ⊢
        exact ⟨h1.1, h1.2.2⟩
    rw [← ready_eq] at hok
    refine wpAnyH_all rfl hok.1 (fun j hj => ?_)
    have h2 := List.all_eq_true.1 hok.2 j hj
    rw [← Array.toList_setIfInBounds] at h2
    by_cases hji : j = i
    · subst hji
      rw [if_pos rfl] at h2
      cases ho : ops[j]? with
      | none => unfold wpOp; rw [ho]; exact absurd hj (by intro hj; obtain ⟨_, o, ho2, _⟩ := mem_ready.1 hj; rw [ho] at ho2; cases ho2)
      | some o =>
        refine wpOp_putD ho (Region.noSelect_spec hs j o · · ho) (fun c a d v w => (hQ c a d v w).2) fs gs (fun f hf => apart_of hap hf List.mem_cons_self ho) ?_
        refine wpOp_mono ?_ (hc (boxes fs gs ++ Ps) W (fun W' h' => inv_drop h') hi)
        rintro a' W' ⟨N', hi', hc'⟩
        exact ⟨inv_drop (inv_drop hi'), any_ hs hQ hn hm n r N' a' gs _ fuel W' hl hap2 h2 (by simp at hf; omega) hc' hi'⟩
    · rw [if_neg hji, Bool.and_eq_true] at h2
      have hmem : j ∈ left fs gs := by simpa using h2.1
      obtain ⟨f, hf1, hf2, hf3, hf4⟩ := boxes_mem fs gs j W.heap.size a hn hmem
      obtain ⟨o, ho, hod, how, hor⟩ := hm f hf1
      rw [hf2] at ho
      unfold wpOp
      simp only [ho, how, if_true]
      refine .inl ?_
      unfold Oper.wp
      rw [hor, Oper.upon_value, hod, ← hf3]
      have hinv : Inv w0 (W.alloc (.cells f.cs f.t)) (N ++ (boxes fs (upd fs gs j W.heap.size) ++ Ps)) := by
        refine inv_perm (hi.box f.cs f.t) ?_
        exact (List.perm_middle.symm).trans ((hf4.append_right Ps).append_left N)
      refine ⟨inv_drop (inv_drop hinv), any_ hs hQ hn hm n (.one i :: r) N a _ _ fuel _ (by rw [upd_length]; exact hl) hap (by rw [left_upd]; exact h2.2) ?_ hc hinv⟩
      rw [left_upd]
      have := left_erase_length hmem
      omega
  | n + 1, [], N, a, gs, l, fuel, W, hl, hap, hok, hf, hc, hi => by
    cases hr : left fs gs with
    | nil =>
      rw [hr] at hok
      simp only [okC] at hok
      obtain ⟨hs2, rfl, hl2⟩ := left_nil fs gs hl hr
      exact seq_any hs (fun c a d v w => (hQ c a d v w).1) rest fuel l _ W (by rw [hr] at hf; simpa using hf) (okT_seq rest l hok) (inv_drop (inv_drop hi)) (hc hs2 W hl2 hi)
    | cons x rem =>
      rw [hr] at hok hf
      simp only [okC, Bool.and_eq_true, bne_iff_ne, ne_eq] at hok
      cases fuel with
      | zero => simp at hf
      | succ fuel =>
        rw [← ready_eq] at hok
        refine wpAnyH_all rfl hok.1 (fun j hj => ?_)
        have h2 := List.all_eq_true.1 hok.2 j hj
        rw [Bool.and_eq_true, ← Array.toList_setIfInBounds] at h2
        have hmem : j ∈ left fs gs := by rw [hr]; simpa using h2.1
        obtain ⟨f, hf1, hf2, hf3, hf4⟩ := boxes_mem fs gs j W.heap.size a hn hmem
        obtain ⟨o, ho, hod, how, hor⟩ := hm f hf1
        rw [hf2] at ho
        unfold wpOp
        simp only [ho, how, if_true]
        refine .inl ?_
        unfold Oper.wp
        rw [hor, Oper.upon_value, hod, ← hf3]
        have hinv : Inv w0 (W.alloc (.cells f.cs f.t)) (N ++ (boxes fs (upd fs gs j W.heap.size) ++ Ps)) := by
          refine inv_perm (hi.box f.cs f.t) ?_
          exact (List.perm_middle.symm).trans ((hf4.append_right Ps).append_left N)
        refine ⟨inv_drop (inv_drop hinv), any_ hs hQ hn hm n [] N a _ _ fuel _ (by rw [upd_length]; exact hl) hap (by rw [left_upd, hr]; exact h2.2) ?_ hc hinv⟩
        rw [left_upd, hr]
        have := left_erase_length (l := x :: rem) (j := j) (by rw [← hr]; exact hmem)
        simp at hf ⊢
        simp at this
        omega
/-- The beginning. -/
theorem start {id : Nat} {a : Act} {w0 w : World} {Ps : List Fact} (T : Tab) (fs : List Var) (n : Nat) (chain rest : List St) (hT : rtab .any ops = (true, T)) (hm : P.follows .mixedOrders = true) (hl : chain.length + fs.length + rest.length ≤ T.length)
    (hn : (fs.map (·.N)).Nodup) (hap : apartB ops fs chain = true) (hok : okC T rest n chain (fs.map (·.i)) (List.replicate T.length false) = true) (hmk : ∀ f ∈ fs, Makes P ops f)
    (hS : Inv w0 w Ps) (h : CW P ops (NoPanic Q) w0 Ps (FinW P ops (NoPanic Q) w0 Ps fs rest) chain [] a) : (Code.region id ops true).wp P Q a w := by
  have e1 : ∀ l : List Var, left l (l.map fun _ => none) = l.map (·.i) := fun l => by induction l with
    | nil => rfl
    | cons f l ih => simp [left, ih]
  have e2 : ∀ l : List Var, boxes l (l.map fun _ => none) = [] := fun l => by induction l with
    | nil => rfl
    | cons f l ih => simp [boxes, ih]
  have e3 : ∀ l : List Var, putD l (l.map fun _ => none) a = a := fun l => by induction l with
    | nil => rfl
    | cons f l ih => simp [putD, ih]
  have hs : Region.noSelect ops = true := congrArg Prod.fst hT
  have hT2 : (rtab .any ops).2 = T := congrArg Prod.snd hT
  have hsz : T.length = ops.size := by rw [← hT2]; exact rtab_length
  rw [← hT2, rtab_length] at hok
  refine wp_region_noPanic (wp_region_held_drew (S := fun W => Inv w0 W Ps) hm hS.drew (fun hS => ?_))
  have := any_ (P := P) (ops := ops) (Q := NoPanic Q) (w0 := w0) (Ps := Ps) (fs := fs) (rest := rest) hs (fun _ _ _ _ _ => Iff.rfl) hn hmk n chain [] a (fs.map fun _ => none) (Array.replicate ops.size false) ops.size w.drew (by simp) hap (by rw [e1, Array.toList_replicate]; exact hok) (by rw [e1]; simp; omega) h (by rw [e2]; exact hS)
  rw [e3] at this
  exact this
section
variable {w0 : World} {Ps : List Fact} {Fin : List Fact → Act → Prop} {fs : List Var} {rest : List St}
theorem take {i : Nat} (N : Option Tmp) {r : List St} {F : List Fact} {a : Act} {o : Oper} {v : Value} (ho : ops[i]? = some o) (hN : o.dst = N) (hy : YieldsIf P ops (fun W => Inv w0 W Ps) o v a) (h : CW P ops Q w0 Ps Fin r F (a.put N v)) : CW P ops Q w0 Ps Fin (.take i :: r) F a := by
  subst hN
  exact ⟨o, v, ho, hy, h⟩
/-- A call of a Go function. -/
theorem call {i : Nat} (N : Option Tmp) {r : List St} {F : List Fact} {a : Act} {o : Oper} {f : FuncId} {fn : Func} {xs : Array Operand} {ts : Array TypeId} (hf : P.funcs[f]? = some fn) (hname : (fn.name == "runtime.NumGoroutine") = false) (hb : fn.body.isSome = true) (args : Array Value) (ho : ops[i]? = some o) (hN : o.dst = N)
    (hop : o.op = .call { callee := .value (.func f), args := xs, argTypes := ts }) (hw : Region.wanted o (yielded ops a.tmps) = true) (hargs' : xs.toList.map a.eval = args.toList)
    (h : ∀ (E : List Fact) (W : World), (∀ W', Inv w0 W' E → Inv w0 W' Ps) → Inv w0 W (F ++ E) → Calls P f args W fun e W' => ∃ v F', e = .returned v ∧ Inv w0 W' (F' ++ E) ∧ CW P ops Q w0 Ps Fin r F' (a.put N v)) : CW P ops Q w0 Ps Fin (.one i :: r) F a := by
  subst hN
  have hargs : xs.map a.eval = args := by
    apply Array.toList_inj.1
    rw [Array.toList_map]
    exact hargs'
  intro E W hE hi
  unfold wpOp
  simp only [ho, hw, if_true]
  refine .inl ?_
  unfold Oper.wp
  have he : ∀ args w, (callFunc f args).run P w = .ok (.enter f args) w := by
    intro args w
    have h1 : fn.name ≠ "runtime.NumGoroutine" := by simpa using hname
    cases hb' : fn.body with
    | none => rw [hb'] at hb; cases hb
    | some c => simp [callFunc, hf, h1, hb']
  have hrun : (execOp a.eval o).run P W = .ok (.enter f args) W := by
    unfold execOp
    simp [hop, resolve, Deferred.ofValue, invoke, Act.eval, hargs, he]
  rw [hrun, Oper.upon_enter]
  refine (h E W hE hi).mono ?_
  rintro e w' ⟨v, F', rfl, hi', hc⟩
  exact ⟨F', hi', hc⟩
theorem fin {F : List Fact} {a : Act} (h : ∀ (gs : List Nat) (W : World), gs.length = fs.length → Inv w0 W (F ++ (boxes fs (gs.map some) ++ Ps)) → SeqW P ops Q (fun W => Inv w0 W Ps) rest (putD fs (gs.map some) a) W) : CW P ops Q w0 Ps (FinW P ops Q w0 Ps fs rest) [] F a := h
/-- Behind the region. -/
def End (Q : Exit → Act → World → Prop) (w0 : World) (Ps : List Fact) : List Fact → Act → Prop := fun N a => ∀ W, Inv w0 W (N ++ Ps) → Q .normal a W
theorem seq_of : ∀ (r : List St) (N : List Fact) (a : Act) (W : World), CW P ops Q w0 Ps (End Q w0 Ps) r N a → Inv w0 W (N ++ Ps) → SeqW P ops Q (fun W => Inv w0 W Ps) r a W
  | [], _, _, W, h, hi => h W hi
  | .take _ :: r, _, _, _, ⟨o, v, ho, hy, h⟩, hi => ⟨o, v, ho, hy, seq_of r _ _ _ h hi⟩
  | .one _ :: r, _, _, W, h, hi => wpOp_mono (fun a' W' ⟨N', hi', hc⟩ => ⟨inv_drop hi', seq_of r N' a' W' hc hi'⟩) (h Ps W (fun _ h => h) hi)
theorem fin0 {F : List Fact} {a : Act} (h : CW P ops Q w0 Ps (End Q w0 Ps) rest F a) : CW P ops Q w0 Ps (FinW P ops Q w0 Ps [] rest) [] F a := fun gs W hg hi => by
  obtain rfl : gs = [] := List.length_eq_zero_iff.1 hg
  exact seq_of rest F a W h hi
theorem fin1 {v1 : Var} {F : List Fact} {a : Act} (h : ∀ g1 : Nat, CW P ops Q w0 Ps (End Q w0 Ps) rest (F ++ [boxF g1 v1.cs v1.t]) (a.put (some v1.N) (.pointer (some ⟨g1, 0, none⟩)))) : CW P ops Q w0 Ps (FinW P ops Q w0 Ps [v1] rest) [] F a := fun gs W hg hi => by
  match gs, hg with
  | [g1], _ => exact seq_of rest _ _ W (h g1) (by rw [List.append_assoc]; exact hi)
/-- A region that does not draw. -/
theorem startL {id : Nat} {a : Act} {w : World} (chain : List St) (hr : chain.map idx = List.range ops.size) (hS : Inv w0 w Ps) (h : CW P ops Q w0 Ps (End Q w0 Ps) chain [] a) : (Code.region id ops false).wp P Q a w :=
  Rg.startL chain hr hS (seq_of chain [] a w h hS)
theorem stop {F : List Fact} {a : Act} (h : ∀ W, Inv w0 W (F ++ Ps) → Q .normal a W) : CW P ops Q w0 Ps (End Q w0 Ps) [] F a := h
theorem stopN {F : List Fact} {a : Act} (h : ∀ W, Inv w0 W (F ++ Ps) → Q .normal a W) : CW P ops (NoPanic Q) w0 Ps (End (NoPanic Q) w0 Ps) [] F a := fun W hi => NoPanic.normal (h W hi)
/-- A variable is made in its turn. -/
theorem var {i : Nat} {N : Tmp} {cs : Array Value} {t : TypeId} {r : List St} {F : List Fact} {a : Act} (hm : Makes P ops ⟨i, N, cs, t⟩) (h : ∀ g : Nat, CW P ops Q w0 Ps Fin r (boxF g cs t :: F) (a.put (some N) (.pointer (some ⟨g, 0, none⟩)))) : CW P ops Q w0 Ps Fin (.one i :: r) F a := by
  intro E W hE hi
  obtain ⟨o, ho, hod, how, hor⟩ := hm
  unfold wpOp
  simp only [ho, how, if_true]
  refine .inl ?_
  unfold Oper.wp
  rw [hor, Oper.upon_value, hod]
  exact ⟨_, hi.box cs t, h W.heap.size⟩
def setAll (cs : Array Value) : Nat → List Value → Array Value
  | _, [] => cs
  | o, v :: r => setAll (cs.setIfInBounds o v) (o + 1) r
theorem setAll_get : ∀ (vs : List Value) (cs : Array Value) (o k : Nat), (setAll cs o vs)[k]? = if o ≤ k ∧ k < o + vs.length ∧ k < cs.size then vs[k - o]? else cs[k]?
  | [], cs, o, k => by rw [if_neg (fun h => by have := h.2.1; have := h.1; simp at *; omega)]; rfl
  | v :: r, cs, o, k => by
    rw [setAll, setAll_get r]
    by_cases h1 : o + 1 ≤ k ∧ k < o + 1 + r.length ∧ k < cs.size
    · rw [if_pos (by rw [Array.size_setIfInBounds]; exact h1), if_pos (by rw [List.length_cons]; omega), show k - o = (k - (o + 1)) + 1 from by omega, List.getElem?_cons_succ]
    · rw [if_neg (by rw [Array.size_setIfInBounds]; exact h1)]
      by_cases h2 : k = o
      · subst h2
        by_cases h3 : k < cs.size
        · rw [if_pos (by rw [List.length_cons]; omega), Array.getElem?_setIfInBounds_self_of_lt h3]; simp
        · rw [if_neg (by omega), Array.getElem?_eq_none (by rw [Array.size_setIfInBounds]; omega), Array.getElem?_eq_none (by omega)]
      · rw [if_neg (by rw [List.length_cons]; omega), Array.getElem?_setIfInBounds_ne (by omega)]
theorem setAll_all (cs cs' : Array Value) (h : cs'.size = cs.size) : setAll cs 0 cs'.toList = cs' := by
  apply Array.ext_getElem?
  intro k
  rw [setAll_get]
  by_cases hk : k < cs.size
  · rw [if_pos (by rw [Array.length_toList]; omega)]; simp
  · rw [if_neg (by omega), Array.getElem?_eq_none (by omega), Array.getElem?_eq_none (by omega)]
theorem blk_setCells {g : Nat} {t : TypeId} : ∀ (vs : List Value) (o : Nat) (w : World) (cs : Array Value), w.heap[g]? = some (.cells cs t (0, 0)) → (w.setCells g o vs).heap[g]? = some (.cells (setAll cs o vs) t (0, 0))
  | [], _, _, _, h => h
  | v :: r, o, w, cs, h => blk_setCells r (o + 1) _ _ (blk_set h o v)
theorem far_setCells {g k : Nat} (hk : k ≠ g) : ∀ (vs : List Value) (o : Nat) (w : World), (w.setCells g o vs).heap[k]? = w.heap[k]?
  | [], _, _ => rfl
  | v :: r, o, w => (far_setCells hk r (o + 1) _).trans (Below.heap_setCell w ⟨g, o, none⟩ v k hk)
theorem size_setCells (g : Nat) : ∀ (vs : List Value) (o : Nat) (w : World), (w.setCells g o vs).heap.size = w.heap.size
  | [], _, _ => rfl
  | v :: r, o, w => (size_setCells g r (o + 1) _).trans (World.size_setCell w _ v)
theorem same_setCells (g : Nat) : ∀ (vs : List Value) (o : Nat) (w : World), (w.setCells g o vs).os = w.os ∧ (w.setCells g o vs).tape = w.tape ∧ (w.setCells g o vs).output = w.output
  | [], _, _ => ⟨rfl, rfl, rfl⟩
  | v :: r, o, w => same_setCells g r (o + 1) (w.setCell ⟨g, o, none⟩ v)
theorem inv_setAll {w W : World} {Ps : List Fact} {g : Nat} {cs cs' : Array Value} {t : TypeId} (h : Inv w W Ps) (i : Nat) (hi : Ps[i]? = some (boxF g cs t)) (hs : cs'.size = cs.size) : Inv w (W.setCells g 0 cs'.toList) (Ps.set i (boxF g cs' t)) := by
  obtain ⟨S, h1, h2, h3⟩ := h.write i hi
  obtain ⟨hg, hb⟩ := h2.now
  obtain ⟨e1, e2, e3⟩ := same_setCells g cs'.toList 0 W
  refine h3 _ _ (h.bel.trans ⟨e1, e2, e3, by rw [size_setCells]; exact Nat.le_refl _, fun k hk => far_setCells (fun e => ?_) _ _ _⟩) ⟨by rw [size_setCells]; exact Nat.le_refl _, fun k _ hn => far_setCells (fun e => hn (by rw [e]; exact hg)) _ _ _⟩ (foot_box hg (by rw [blk_setCells _ 0 W cs hb, setAll_all cs cs' hs]))
  have := (h1 g hg).1
  omega
/-- A store of a whole record into its variable. -/
theorem store {i : Nat} {r : List St} {F F' : List Fact} {a : Act} {o : Oper} (j : Nat) {g : Nat} {cs : Array Value} {t : TypeId} (cs' : Array Value) (hj : F[j]? = some (boxF g cs t)) (hF : F' = F.set j (boxF g cs' t)) (ho : ops[i]? = some o) (hd : o.dst = none) (ty : TypeId) (x y : Operand) (hop : o.op = .store ty x y)
    (hx : a.eval x = .pointer (some ⟨g, 0, none⟩)) (hy : a.eval y = .agg cs') (hw : Region.wanted o (yielded ops a.tmps) = true) (hs : cs'.size = cs.size) (hi : (P.info? ty).map (·.size) = some cs'.size) (h1 : cs'.all (·.oneCell') = true) (h : CW P ops Q w0 Ps Fin r F' a) : CW P ops Q w0 Ps Fin (.one i :: r) F a := by
  intro E W hE hinv
  have hj2 : (F ++ E)[j]? = some (boxF g cs t) := by
    have hlt : j < F.length := (List.getElem?_eq_some_iff.1 hj).1
    rw [List.getElem?_append_left hlt]
    exact hj
  have hblk := hinv.blk j hj2
  unfold wpOp
  simp only [ho, hw, if_true]
  refine .inl (wp_store_mid ty x y hop g 0 cs' hx hy (fun k hk => ?_) hi h1 ?_)
  · rw [Nat.zero_add, blk_cell hblk k]
    exact ⟨by rw [Array.getElem?_eq_getElem (by omega)]; rfl, blk_frozen hblk k⟩
  · rw [hd]
    refine ⟨F', ?_, h⟩
    rw [hF, ← List.set_append_left _ _ (List.getElem?_eq_some_iff.1 hj).1]
    exact inv_setAll hinv j hj2 hs
/-- A load of a whole record. -/
theorem ld {a : Act} {o : Oper} (j : Nat) {g : Nat} {cs : Array Value} {t : TypeId} {d : TypeDesc} (hj : Ps[j]? = some (boxF g cs t)) (hw : Region.wanted o (yielded ops a.tmps) = true) (ty : TypeId) (x : Operand) (ho : o.op = .load ty x)
    (hx : a.eval x = .pointer (some ⟨g, 0, none⟩)) (hu : P.underlying ty = some d) (hd : d.isRow = true) (hi : (P.info? ty).map (·.size) = some cs.size) : YieldsIf P ops (fun W => Inv w0 W Ps) o (.agg cs) a := by
  have := yieldsIf_load_mid (P := P) (ops := ops) (S := fun W => Inv w0 W Ps) hw ty x ho g 0 hx cs.toList d (fun W hW k v hk => by rw [Nat.zero_add]; exact hW.cell j hj k (by simpa using hk)) hu hd (by simpa using hi)
  simpa using this
/-- What a call leaves. -/
theorem keep {r : List St} {F E : List Fact} {a : Act} {N : Option Tmp} {v : Value} {W W' : World} (hi : Inv w0 W (F ++ E)) (hb : Below W.heap.size W W') (h : CW P ops Q w0 Ps Fin r F (a.put N v)) : ∃ v' F', Ending.returned v = .returned v' ∧ Inv w0 W' (F' ++ E) ∧ CW P ops Q w0 Ps Fin r F' (a.put N v') := ⟨v, F, rfl, hi.below hb, h⟩
theorem keepI {r : List St} {F F' E : List Fact} {a : Act} {N : Option Tmp} {v : Value} {W' : World} (hi : Inv w0 W' (F' ++ E)) (h : CW P ops Q w0 Ps Fin r F' (a.put N v)) : ∃ v' F', Ending.returned v = .returned v' ∧ Inv w0 W' (F' ++ E) ∧ CW P ops Q w0 Ps Fin r F' (a.put N v') := ⟨v, F', rfl, hi, h⟩
theorem addR {α : Type} {d : Kd α} {e : Nat} {x : Value} {xs : List α} {r : List St} {F E : List Fact} {a : Act} {N : Option Tmp} {v : Value} {W W' : World} (hi : Inv w0 W (F ++ E)) (hr : Kd.R d e W' W.heap.size (fun _ => True) x xs) (hb : Below W.heap.size W W') (h : CW P ops Q w0 Ps Fin r (rowF d e w0.heap.size x xs :: F) (a.put N v)) : ∃ v' F', Ending.returned v = .returned v' ∧ Inv w0 W' (F' ++ E) ∧ CW P ops Q w0 Ps Fin r F' (a.put N v') := ⟨v, rowF d e w0.heap.size x xs :: F, rfl, hi.row hr hb, h⟩
theorem addS {α : Type} {d : Kd α} {e : Nat} {x : Value} {xs : List α} {r : List St} {F E : List Fact} {a : Act} {N : Option Tmp} {v : Value} {W W' : World} (hi : Inv w0 W (F ++ E)) (hr : Kd.S d e W' W.heap.size (fun _ => True) x xs) (hb : Below W.heap.size W W') (h : CW P ops Q w0 Ps Fin r (rowsF d e w0.heap.size x xs :: F) (a.put N v)) : ∃ v' F', Ending.returned v = .returned v' ∧ Inv w0 W' (F' ++ E) ∧ CW P ops Q w0 Ps Fin r F' (a.put N v') := ⟨v, rowsF d e w0.heap.size x xs :: F, rfl, hi.rows hr hb, h⟩
/-- A region that does not draw, with a call that writes: all facts are at hand. -/
theorem startW {id : Nat} {a : Act} {w : World} {F : List Fact} (chain : List St) (hr : chain.map idx = List.range ops.size) (hS : Inv w0 w F) (h : CW P ops Q w0 [] (End Q w0 []) chain F a) : (Code.region id ops false).wp P Q a w := by
  have h1 : Inv w0 w (F ++ []) := by rw [List.append_nil]; exact hS
  exact Rg.startL chain hr (inv_drop h1) (seq_of chain F a w h h1)
theorem stopW {F : List Fact} {a : Act} (h : ∀ W, Inv w0 W F → Q .normal a W) : CW P ops Q w0 [] (End Q w0 []) [] F a := fun W hi => h W (by rw [List.append_nil] at hi; exact hi)
theorem ldF {i : Nat} {r : List St} {F : List Fact} {a : Act} {o : Oper} (N : Option Tmp) (j : Nat) {g : Nat} {cs : Array Value} {t : TypeId} {d : TypeDesc} (hj : F[j]? = some (boxF g cs t)) (hi2 : ops[i]? = some o) (hN : o.dst = N) (hw : Region.wanted o (yielded ops a.tmps) = true) (ty : TypeId) (x : Operand) (ho : o.op = .load ty x)
    (hx : a.eval x = .pointer (some ⟨g, 0, none⟩)) (hu : P.underlying ty = some d) (hd : d.isRow = true) (hi : (P.info? ty).map (·.size) = some cs.size) (h : CW P ops Q w0 Ps Fin r F (a.put N (.agg cs))) : CW P ops Q w0 Ps Fin (.one i :: r) F a := by
  subst hN
  intro E W hE hinv
  have hlt : j < F.length := (List.getElem?_eq_some_iff.1 hj).1
  have := yieldsIf_load_mid (P := P) (ops := ops) (S := fun W => Inv w0 W (F ++ E)) hw ty x ho g 0 hx cs.toList d (fun W hW k v hk => by rw [Nat.zero_add]; exact hW.cell j (by rw [List.getElem?_append_left hlt]; exact hj) k (by simpa using hk)) hu hd (by simpa using hi)
  exact this.wpOp hi2 hinv ⟨F, hinv, h⟩
/-- Some of the facts, in an order of their own. -/
def Apart (W : World) (Ps : List Fact) (U : Nat → Prop) : Prop := ∃ Sf : Nat → Nat → Prop, (∀ i P, Ps[i]? = some P → (∀ k, Sf i k → U k) ∧ Foot (P (Sf i)) W (Sf i)) ∧ ∀ i j, i ≠ j → i < Ps.length → j < Ps.length → ∀ k, Sf i k → ¬ Sf j k
theorem apart_of_live {W : World} : ∀ {Ps : List Fact} {U : Nat → Prop}, Live W Ps U → Apart W Ps U
  | [], _, _ => ⟨fun _ _ => False, fun i P h => by simp at h, fun i j _ h => by simp at h⟩
  | P :: Ps, U, ⟨S, h1, h2, h3⟩ => by
    obtain ⟨Sf, h4, h5⟩ := apart_of_live h3
    refine ⟨fun i => match i with | 0 => S | i + 1 => Sf i, fun i Q hQ => ?_, fun i j hij hi hj => ?_⟩
    · cases i with
      | zero =>
        obtain rfl : P = Q := by simpa using hQ
        exact ⟨h1, h2⟩
      | succ i => exact ⟨fun k hk => ((h4 i Q (by simpa using hQ)).1 k hk).1, (h4 i Q (by simpa using hQ)).2⟩
    · cases i with
      | zero =>
        cases j with
        | zero => exact absurd rfl hij
        | succ j =>
          intro k hk hk2
          have hj2 : j < Ps.length := by simpa using hj
          exact ((h4 j Ps[j] (List.getElem?_eq_getElem hj2)).1 k hk2).2 hk
      | succ i =>
        have hi2 : i < Ps.length := by simpa using hi
        cases j with
        | zero => intro k hk hk2; exact ((h4 i Ps[i] (List.getElem?_eq_getElem hi2)).1 k hk).2 hk2
        | succ j => exact h5 i j (fun e => hij (by rw [e])) hi2 (by simpa using hj)
def sel (is : List Nat) (Ps : List Fact) : List Fact := is.filterMap (fun i => Ps[i]?)
theorem live_sel {W : World} {Ps : List Fact} {Sf : Nat → Nat → Prop} {U0 : Nat → Prop} (h1 : ∀ i P, Ps[i]? = some P → (∀ k, Sf i k → U0 k) ∧ Foot (P (Sf i)) W (Sf i)) (h2 : ∀ i j, i ≠ j → i < Ps.length → j < Ps.length → ∀ k, Sf i k → ¬ Sf j k) : ∀ (is : List Nat) {U : Nat → Prop}, is.Nodup → (∀ i ∈ is, i < Ps.length → ∀ k, Sf i k → U k) → Live W (sel is Ps) U
  | [], _, _, _ => trivial
  | i :: is, U, hn, hU => by
    by_cases hi : i < Ps.length
    · have e : sel (i :: is) Ps = Ps[i] :: sel is Ps := by simp [sel, List.getElem?_eq_getElem hi]
      rw [e]
      refine ⟨Sf i, hU i List.mem_cons_self hi, (h1 i _ (List.getElem?_eq_getElem hi)).2, ?_⟩
      refine live_sel h1 h2 is (List.nodup_cons.1 hn).2 (fun j hj hjl k hk => ⟨hU j (List.mem_cons_of_mem _ hj) hjl k hk, h2 j i (fun e => (List.nodup_cons.1 hn).1 (e ▸ hj)) hjl hi k hk⟩)
    · have e : sel (i :: is) Ps = sel is Ps := by simp [sel, List.getElem?_eq_none (Nat.le_of_not_lt hi)]
      rw [e]
      exact live_sel h1 h2 is (List.nodup_cons.1 hn).2 (fun j hj => hU j (List.mem_cons_of_mem _ hj))
theorem inv_sel {w W : World} {Ps : List Fact} (h : Inv w W Ps) (is : List Nat) (hn : is.Nodup) : Inv w W (sel is Ps) := by
  obtain ⟨Sf, h1, h2⟩ := apart_of_live h.live
  exact ⟨h.bel, live_sel h1 h2 is hn (fun i _ hi k hk => (h1 i _ (List.getElem?_eq_getElem hi)).1 k hk)⟩
/-- The beginning, where some facts may be written by the region. -/
theorem startF {id : Nat} {a : Act} {w0 w : World} {Ps F : List Fact} (T : Tab) (fs : List Var) (n : Nat) (chain rest : List St) (hT : rtab .any ops = (true, T)) (hm : P.follows .mixedOrders = true) (hl : chain.length + fs.length + rest.length ≤ T.length)
    (hn : (fs.map (·.N)).Nodup) (hap : apartB ops fs chain = true) (hok : okC T rest n chain (fs.map (·.i)) (List.replicate T.length false) = true) (hmk : ∀ f ∈ fs, Makes P ops f)
    (hS : Inv w0 w (F ++ Ps)) (h : CW P ops (NoPanic Q) w0 Ps (FinW P ops (NoPanic Q) w0 Ps fs rest) chain F a) : (Code.region id ops true).wp P Q a w := by
  have e1 : ∀ l : List Var, left l (l.map fun _ => none) = l.map (·.i) := fun l => by induction l with
    | nil => rfl
    | cons f l ih => simp [left, ih]
  have e2 : ∀ l : List Var, boxes l (l.map fun _ => none) = [] := fun l => by induction l with
    | nil => rfl
    | cons f l ih => simp [boxes, ih]
  have e3 : ∀ l : List Var, putD l (l.map fun _ => none) a = a := fun l => by induction l with
    | nil => rfl
    | cons f l ih => simp [putD, ih]
  have hs : Region.noSelect ops = true := congrArg Prod.fst hT
  have hT2 : (rtab .any ops).2 = T := congrArg Prod.snd hT
  rw [← hT2, rtab_length] at hok
  have hsz : T.length = ops.size := by rw [← hT2]; exact rtab_length
  refine wp_region_noPanic (wp_region_held_drew (S := fun W => Inv w0 W Ps) hm (inv_drop hS).drew (fun _ => ?_))
  have := any_ (P := P) (ops := ops) (Q := NoPanic Q) (w0 := w0) (Ps := Ps) (fs := fs) (rest := rest) hs (fun _ _ _ _ _ => Iff.rfl) hn hmk n chain F a (fs.map fun _ => none) (Array.replicate ops.size false) ops.size w.drew (by simp) hap (by rw [e1, Array.toList_replicate]; exact hok) (by rw [e1]; simp; omega) h (by rw [e2]; exact hS.drew)
  rw [e3] at this
  exact this
/-- A step that does nothing but compute, in a chain. -/
theorem lit {i : Nat} {N : Tmp} {cs : Array Value} {t : TypeId} {n : Nat} {r : List St} {F : List Fact} {a : Act} {o : Oper} (ho : ops[i]? = some o) (hd : o.dst = some N) (hw : Region.wanted o (yielded ops a.tmps) = true)
    (hrun : ∀ w, (execOp a.eval o).run P w = .ok (.value (.slice (some ⟨w.heap.size, 0, none⟩) n n)) (w.alloc (.cells cs t)))
    (h : ∀ g : Nat, CW P ops Q w0 Ps Fin r (boxF g cs t :: F) (a.put (some N) (.slice (some ⟨g, 0, none⟩) n n))) : CW P ops Q w0 Ps Fin (.one i :: r) F a := by
  intro E W hE hi
  unfold wpOp
  simp only [ho, hw, if_true]
  refine .inl ?_
  unfold Oper.wp
  rw [hrun, Oper.upon_value, hd]
  exact ⟨_, hi.box cs t, h W.heap.size⟩
/-- A block that is known whole reads as a row of one. -/
theorem c_one {α : Type} {d : Kd α} {W : World} {g : Nat} {cs : Array Value} {t : TypeId} {x : α} (hb : W.heap[g]? = some (.cells cs t (0, 0))) (hK : d.K W x cs.toList) : Kd.C d W (some ⟨g, 0, none⟩) [x].length [x] := by
  refine ⟨rfl, by simp, fun _ => ⟨⟨g, 0, none⟩, rfl, fun j p hj => ?_⟩⟩
  cases j with
  | succ j => simp at hj
  | zero =>
    obtain rfl : x = p := by simpa using hj
    refine ⟨cs.toList, d.K_len hK, hK, fun i u hu => ?_⟩
    have : (⟨g, 0, none⟩ : Addr).add (0 * d.sz + i) = ⟨g, i, none⟩ := by rw [Go.Addr.add_mid]; simp
    rw [this]
    exact (blk_cell hb i).trans (by simpa using hu)
theorem mk0 : ∀ f ∈ ([] : List Var), Makes P ops f := fun _ h => by simp at h
theorem mkc {f : Var} {fs : List Var} (h : Makes P ops f) (t : ∀ f ∈ fs, Makes P ops f) : ∀ g ∈ f :: fs, Makes P ops g := fun g hg => by
  rcases List.mem_cons.1 hg with rfl | hg
  · exact h
  · exact t g hg
end
end
end Go.Proofs.Ytkifenbcepicjaa.Fl
namespace Go.Proofs.Ytkifenbcepicjaa.Lv
open Go.RowKit Go.Proofs.YtkifenbcepicjaaW.PrintWords
set_option linter.unusedVariables false
set_option linter.unusedSimpArgs false
/-- The first fact is a row that grows: in place, or in a new block. -/
theorem Inv.grow {α : Type} {d : Kd α} {e : Nat} {v : Value} {xs : List α} {w W : World} {Ps : List Fact} (h : Inv w W (rowF d e w.heap.size v xs :: Ps)) : ∃ S : Nat → Prop, Kd.R d e W w.heap.size S v xs ∧ (∀ k, S k → w.heap.size ≤ k ∧ k < W.heap.size) ∧
    ∀ (W' : World) (v' : Value) (xs' : List α), Below w.heap.size w W' → Kept W W' S → Kd.R d e W' w.heap.size (fun k => S k ∨ W.heap.size ≤ k) v' xs' → Inv w W' (rowF d e w.heap.size v' xs' :: Ps) := by
  obtain ⟨S, h1, h2, h3⟩ := h.live
  refine ⟨S, h2.now, h1, fun W' v' xs' hb hk hr => ⟨hb, fun k => (S k ∨ W.heap.size ≤ k) ∧ k < W'.heap.size, fun k hk2 => ?_, foot_row (Kd.R_mono (Kd.R_bound hr) (fun k hk3 => ⟨hk3.1, hk3.2.2.1⟩)), ?_⟩⟩
  · rcases hk2.1 with hs | hs
    · exact ⟨(h1 k hs).1, hk2.2⟩
    · exact ⟨Nat.le_trans h.bel.size hs, hk2.2⟩
  · refine (h3.step (fun k hk2 => hk.2 k hk2.1.2 hk2.2)).mono (fun k hk2 => ⟨⟨hk2.1.1, Nat.lt_of_lt_of_le hk2.1.2 hk.1⟩, fun hx => ?_⟩)
    rcases hx.1 with hs | hs
    · exact hk2.2 hs
    · exact Nat.not_lt_of_le hs hk2.1.2
end Go.Proofs.Ytkifenbcepicjaa.Lv
namespace Go.Proofs.Ytkifenbcepicjaa.Fl
open Go.RowKit Go.Proofs.YtkifenbcepicjaaW.PrintWords Go.Proofs.YtkifenbcepicjaaW.PrintLast Go.Proofs.Ytkifenbcepicjaa.Lv Go.Proofs.Ytkifenbcepicjaa.Rg
set_option linter.unusedVariables false
set_option linter.unusedSimpArgs false
section
variable {P : Program} {ops : Array Oper} {Q : Exit → Act → World → Prop}
/-- In a region of one order: a row of one is laid, and appended to a row of the call's own. -/
theorem seqAppend {α : Type} {d : Kd α} {e t bytes : Nat} {z : Value} {Ps : List Fact} {v : Value} {xs : List α} {p : α} {cs : List Value} {w W : World} {a : Act} {i1 i2 : Nat} {r : List St} {o1 o2 : Oper} {N1 N2 : Tmp} {s x : Operand} (hi : Inv w W (rowF d e w.heap.size v xs :: Ps))
    (h1 : ops[i1]? = some o1) (hd1 : o1.dst = some N1) (hw1 : Region.wanted o1 (yielded ops a.tmps) = true) (hrun : ∀ W, (execOp a.eval o1).run P W = .ok (.value (.slice (some ⟨W.heap.size, 0, none⟩) 1 1)) (W.alloc (.cells cs.toArray e)))
    (h2 : ops[i2]? = some o2) (hd2 : o2.dst = some N2) (hw2 : ∀ u, Region.wanted o2 (yielded ops (a.put (some N1) u).tmps) = true) (ho2 : o2.op = .call { callee := .builtin .append, args := #[s, x], argTypes := #[t, t] })
    (ht : P.underlying t = some (.slice e)) (hinfo : (P.info? e).map (fun i => (i.zero, i.size, i.bytes)) = some (some z, d.sz, bytes)) (hz : z.cells.size = d.sz) (hs0 : 0 < d.sz) (hb0 : 0 < bytes)
    (hs : ∀ u, (a.put (some N1) u).eval s = v) (hx : ∀ u, (a.put (some N1) u).eval x = u) (hp : ∀ (W : World) (base : Nat), d.M W base (fun _ => False) p cs) (hl : (xs.length + 1) * bytes ≤ 140737488355328)
    (h : ∀ u v1 w1, Inv w w1 (rowF d e w.heap.size v1 (xs ++ [p]) :: Ps) → SeqW P ops Q (fun W => Inv w W Ps) r ((a.put (some N1) u).put (some N2) v1) w1) : SeqW P ops Q (fun W => Inv w W Ps) (.one i1 :: .one i2 :: r) a W := by
  obtain ⟨S, hS, hSb, hgrow⟩ := hi.grow
  refine oneK h1 (fun K hK => ?_)
  rw [if_pos hw1]
  unfold Oper.wp
  rw [hrun, Oper.upon_value, hd1]
  refine hK.out _ _ (hi.tail.below (below_alloc (Below.refl _ _) _)) ?_
  refine oneK h2 (fun K2 hK2 => ?_)
  refine Kd.R_append_step (w0 := w) d w.heap.size (hw2 _) s x t e z bytes ho2 ht hinfo hz hs0 hb0 v xs p cs (fun k => S k ∨ W.heap.size ≤ k) (fun _ => False) (hs _) (hx _) (hp W _) (fun _ hk => hk.elim) (fun k hk => .inr hk) (Kd.R_mono hS (fun k hk => .inl hk)) hi.bel hi.bel.size hl ?_
  intro v1 w1 hr hb hg hblk
  rw [hd2]
  have hI := hgrow w1 v1 (xs ++ [p]) hb (Kept.of_grown hg (Kept.refl W S) (fun k hk => .inl (hS.1 k hk))) hr
  exact hK2.out _ _ hI.tail (h _ v1 w1 hI)
variable {w0 : World} {Ps : List Fact} {Fin : List Fact → Act → Prop}
/-- A load of one plain cell. -/
theorem run_loadAt_cell {w : World} {b o : Nat} {ty : TypeId} {v : Value} {d : TypeDesc} (hc : w.cell? ⟨b, o, none⟩ = some v) (hu : P.underlying ty = some d) (hd : d.isRow = false) : (Instr.loadAt ty (.pointer (some ⟨b, o, none⟩))).run P w = .ok v w := by
  have hagg : (isAgg ty).run P w = .ok false w := by
    unfold isAgg
    rw [Sem.run_bind, run_underlying hu w]
    cases d <;> simp_all
  have hl : (load ⟨b, o, none⟩).run P w = .ok v w := by
    rw [run_load]
    simp [hc]
  simp only [Instr.loadAt, Instr.sureAddr, Sem.run_bind, Sem.run_pure, Result.andThen_ok, loadVar, hagg, Bool.false_eq_true, if_false, hl]
theorem yieldsIf_load_cell {S : World → Prop} {o : Oper} {a : Act} (hw : Region.wanted o (yielded ops a.tmps) = true) (ty : TypeId) (x : Operand) (ho : o.op = .load ty x) (b off : Nat) (hx : a.eval x = .pointer (some ⟨b, off, none⟩)) {v : Value} {d : TypeDesc} (hS : ∀ w, S w → w.cell? ⟨b, off, none⟩ = some v)
    (hu : P.underlying ty = some d) (hd : d.isRow = false) : YieldsIf P ops S o v a := .inl ⟨hw, fun w hw' => by
  unfold execOp
  simp only [ho, hx, Sem.run_bind, run_loadAt_cell (hS w hw') hu hd, Result.andThen_ok]
  rfl⟩
theorem ldc {a : Act} {o : Oper} (j off : Nat) {g : Nat} {cs : Array Value} {t : TypeId} {d : TypeDesc} {v : Value} (hj : Ps[j]? = some (boxF g cs t)) (hw : Region.wanted o (yielded ops a.tmps) = true) (ty : TypeId) (x : Operand) (ho : o.op = .load ty x)
    (hx : a.eval x = .pointer (some ⟨g, off, none⟩)) (hv : cs[off]? = some v) (hu : P.underlying ty = some d) (hd : d.isRow = false) : YieldsIf P ops (fun W => Inv w0 W Ps) o v a :=
  yieldsIf_load_cell hw ty x ho g off hx (fun W hW => hW.cell j hj off hv) hu hd
theorem ldXc {i : Nat} {r : List St} {F : List Fact} {a : Act} {o : Oper} (N : Option Tmp) (j off : Nat) {g : Nat} {cs : Array Value} {t : TypeId} {d : TypeDesc} {v : Value} (hj : F[j]? = some (boxF g cs t)) (hi2 : ops[i]? = some o) (hN : o.dst = N) (hw : Region.wanted o (yielded ops a.tmps) = true) (ty : TypeId) (x : Operand) (ho : o.op = .load ty x)
    (hx : a.eval x = .pointer (some ⟨g, off, none⟩)) (hv : cs[off]? = some v) (hu : P.underlying ty = some d) (hd : d.isRow = false) (h : CW P ops Q w0 Ps Fin r F (a.put N v)) : CW P ops Q w0 Ps Fin (.one i :: r) F a := by
  subst hN
  intro E W hE hinv
  have hlt : j < F.length := (List.getElem?_eq_some_iff.1 hj).1
  have := yieldsIf_load_cell (P := P) (ops := ops) (S := fun W => Inv w0 W (F ++ E)) hw ty x ho g off hx (fun W hW => hW.cell j (by rw [List.getElem?_append_left hlt]; exact hj) off hv) hu hd
  exact this.wpOp hi2 hinv ⟨F, hinv, h⟩
end
end Go.Proofs.Ytkifenbcepicjaa.Fl
namespace Go.Proofs.Ytkifenbcepicjaa.Lx
open Go.RowKit Go.Proofs.YtkifenbcepicjaaW.PrintWords
set_option linter.unusedVariables false
set_option linter.unusedSimpArgs false
theorem spot_none {w : World} {b o : Nat} {s : Option Nat} {v : Value} (h0 : w.cell? ⟨b, o, s⟩ = some v) : s = none := by
  cases s with
  | none => rfl
  | some s =>
    exfalso
    unfold World.cell? at h0
    dsimp only at h0
    split at h0 <;> simp at h0
/-- What lies in a row of a kind whose cells are told by its elements. -/
theorem row_cells {α : Type} {d : Kd α} {f : α → List Value} (ho : ∀ w x cs, d.K w x cs → cs = f x) (hs : ∀ x, 0 < (f x).length) {w : World} {A : Option Addr} {n : Nat} {xs : List α} (h : d.C w A n xs) (hp : 0 < n) : ∃ b o, A = some ⟨b, o, none⟩ ∧ ∀ i x, xs[i]? = some x → w.rangeAt b (o + i * d.sz) (f x) := by
  obtain ⟨h1, _, h2⟩ := h
  obtain ⟨ad, rfl, h3⟩ := h2 hp
  have hcell : ∀ i x, xs[i]? = some x → ∀ j u, (f x)[j]? = some u → w.cell? (ad.add (i * d.sz + j)) = some u := fun i x hi j u hu => by
    obtain ⟨cs, _, hk, hc⟩ := h3 i x hi
    obtain rfl := ho _ _ _ hk
    exact hc j u hu
  obtain ⟨b, o, s⟩ := ad
  obtain ⟨x, hx⟩ : ∃ x, xs[0]? = some x := ⟨_, List.getElem?_eq_getElem (by omega)⟩
  have hcx := hcell 0 x hx
  obtain ⟨u, hu⟩ : ∃ u, (f x)[0]? = some u := ⟨_, List.getElem?_eq_getElem (hs x)⟩
  obtain rfl := spot_none (show w.cell? ⟨b, o, s⟩ = some u from by have := hcx 0 u hu; rw [Nat.zero_mul, Nat.zero_add] at this; exact this)
  refine ⟨b, o, rfl, fun i x hi j v hj => ?_⟩
  have := hcell i x hi j v hj
  rwa [Go.Addr.add_mid, ← Nat.add_assoc] at this
theorem of_cond {α : Type} {c : Prop} [Decidable c] {x r : α} (h : (if c then some x else none) = some r) : c ∧ x = r := by
  by_cases hc : c
  · rw [if_pos hc] at h; exact ⟨hc, Option.some.inj h⟩
  · rw [if_neg hc] at h; cases h
theorem of_condO {α : Type} {c : Prop} [Decidable c] {x : Option α} {r : α} (h : (if c then x else none) = some r) : c ∧ x = some r := by
  by_cases hc : c
  · rw [if_pos hc] at h; exact ⟨hc, h⟩
  · rw [if_neg hc] at h; cases h
end Go.Proofs.Ytkifenbcepicjaa.Lx
namespace Go.Proofs.Ytkifenbcepicjaa.Fl
open Go.RowKit Go.Proofs.YtkifenbcepicjaaW.PrintWords Go.Proofs.YtkifenbcepicjaaW.PrintLast Go.Proofs.Ytkifenbcepicjaa.Lv Go.Proofs.Ytkifenbcepicjaa.Rg
set_option linter.unusedVariables false
set_option linter.unusedSimpArgs false
section
variable {P : Program} {ops : Array Oper} {Q : Exit → Act → World → Prop} {w0 : World} {Ps : List Fact} {Fin : List Fact → Act → Prop}
/-- A store of one plain cell. -/
theorem storeC {i : Nat} {r : List St} {F F' : List Fact} {a : Act} {o : Oper} (j off : Nat) {g : Nat} {cs : Array Value} {t : TypeId} (u : Value) (hj : F[j]? = some (boxF g cs t)) (hF : F' = F.set j (boxF g (cs.setIfInBounds off u) t)) (ho : ops[i]? = some o) (hd : o.dst = none) (ty : TypeId) (x y : Operand) (hop : o.op = .store ty x y)
    (hx : a.eval x = .pointer (some ⟨g, off, none⟩)) (hy : a.eval y = u) (hw : Region.wanted o (yielded ops a.tmps) = true) (hoff : off < cs.size) (hi : (P.info? ty).map (·.size) = some 1) (hu : u.cells = #[u]) (h1 : u.oneCell' = true) (h : CW P ops Q w0 Ps Fin r F' a) : CW P ops Q w0 Ps Fin (.one i :: r) F a := by
  intro E W hE hinv
  have hlt : j < F.length := (List.getElem?_eq_some_iff.1 hj).1
  have hj2 : (F ++ E)[j]? = some (boxF g cs t) := by rw [List.getElem?_append_left hlt]; exact hj
  have hblk := hinv.blk j hj2
  have hst := run_storeCells_cells (P := P) g off [u] 0 W (fun q hq => by
    obtain rfl : q = 0 := by simp at hq; omega
    show (W.cell? ⟨g, off, none⟩).isSome = true
    rw [blk_cell hblk, Array.getElem?_eq_getElem hoff]; rfl) (fun q hq => blk_frozen hblk _) (fun v hv => by
    obtain rfl : v = u := by simpa using hv
    exact h1)
  rw [Nat.add_zero] at hst
  obtain ⟨ie, hie, hz⟩ := Option.map_eq_some_iff.1 hi
  have hrun : (storeVar ty ⟨g, off, none⟩ u).run P W = .ok () (W.setCells g off [u]) := by
    simp [storeVar, sizeOf, typeInfo, hie, hz, hu, hst]
  unfold wpOp
  simp only [ho, hw, if_true]
  refine .inl ?_
  unfold Oper.wp execOp
  simp only [hop, hx, hy, Instr.storeAt, Instr.sureAddr, Sem.run_bind, Sem.run_pure, Result.andThen_ok, hrun]
  show ∃ N', _
  rw [hd]
  refine ⟨F', ?_, h⟩
  rw [hF, ← List.set_append_left _ _ hlt]
  exact hinv.set j hj2 off u
end
end Go.Proofs.Ytkifenbcepicjaa.Fl
namespace Go.Proofs.Ytkifenbcepicjaa.Lx
open Go.RowKit Go.Proofs.YtkifenbcepicjaaW.PrintWords Go.Proofs.Ytkifenbcepicjaa.Lv
set_option linter.unusedVariables false
set_option linter.unusedSimpArgs false
theorem int_re {w W : World} {Ps : List Fact} {e g n cap : Nat} {cs : Array Value} {xs : List Int} (h : Inv w W (boxF g cs e :: Ps)) (hl : xs.length = n) (hn : n ≤ cap) (hm : cap ≤ maxLen) (hsz : cs.size = cap) (hx : ∀ (i : Nat) (x : Int), xs[i]? = some x → cs[i]? = some (Value.int .i64 x)) : Inv w W (rowF (Kd.int .i64) e w.heap.size (.slice (some ⟨g, 0, none⟩) n cap) xs :: Ps) := by
  subst hl
  obtain ⟨S, h1, h2, h3⟩ := h.live
  obtain ⟨hg, hb⟩ := h2.now
  have e2 : cs.toList.length = cap := by rw [← hsz]; exact Array.length_toList
  have e3 : (cs.toList.take (xs.length * 1)).length = xs.length * 1 := by rw [List.length_take, e2]; omega
  refine ⟨h.bel, S, h1, foot_row ?_, h3⟩
  refine ⟨fun k hk => by obtain rfl : g = k := by simpa [Value.ownBlock] using hk
                         exact hg, cs.toList.take (xs.length * 1), ⟨e3, .inr ⟨g, cap, cs, rfl, (h1 g hg).1, hb, hn, hm, by rw [hsz]; exact (Nat.mul_one _).symm, rfl⟩⟩, e3, fun i x hi => ?_⟩
  have hil := (List.getElem?_eq_some_iff.1 hi).1
  show ((cs.toList.take (xs.length * 1)).drop (i * 1)).take 1 = [Value.int .i64 x]
  apply List.ext_getElem?
  intro j
  rw [List.getElem?_take]
  by_cases hj : j < 1
  · obtain rfl : j = 0 := by omega
    rw [if_pos hj, List.getElem?_drop, List.getElem?_take, if_pos (by omega), Array.getElem?_toList, show i * 1 + 0 = i by omega, hx i x hi]
    rfl
  · rw [if_neg hj, List.getElem?_eq_none (by simp; omega)]
end Go.Proofs.Ytkifenbcepicjaa.Lx
namespace Go.Proofs.Ytkifenbcepicjaa.Lv
open Go.RowKit Go.Proofs.YtkifenbcepicjaaW.PrintWords
set_option linter.unusedVariables false
set_option linter.unusedSimpArgs false
theorem front_perm {α : Type} : ∀ (l : List α) (i : Nat) {x : α}, l[i]? = some x → l.Perm (x :: l.eraseIdx i)
  | [], i, x, h => by simp at h
  | y :: l, 0, x, h => by
    obtain rfl : y = x := by simpa using h
    exact List.Perm.refl _
  | y :: l, i + 1, x, h => by
    have := front_perm l i (x := x) (by simpa using h)
    exact (this.cons y).trans (List.Perm.swap _ _ _)
/-- A fact is told first. -/
theorem Inv.front {w W : World} {Ps : List Fact} (h : Inv w W Ps) (i : Nat) {P : Fact} (hi : Ps[i]? = some P) : Inv w W (P :: Ps.eraseIdx i) := Fl.inv_perm h (front_perm Ps i hi)
/-- A fact is not told any more. -/
theorem Inv.omit {w W : World} {Ps : List Fact} (h : Inv w W Ps) (i : Nat) {P : Fact} (hi : Ps[i]? = some P) : Inv w W (Ps.eraseIdx i) := (h.front i hi).tail
end Go.Proofs.Ytkifenbcepicjaa.Lv
namespace Go.Proofs.Ytkifenbcepicjaa.Fl
open Go.RowKit Go.Proofs.YtkifenbcepicjaaW.PrintWords Go.Proofs.YtkifenbcepicjaaW.PrintLast Go.Proofs.Ytkifenbcepicjaa.Lv Go.Proofs.Ytkifenbcepicjaa.Rg
set_option linter.unusedVariables false
set_option linter.unusedSimpArgs false
section
variable {P : Program} {ops : Array Oper} {Q : Exit → Act → World → Prop} {w0 : World} {Ps : List Fact} {Fin : List Fact → Act → Prop}
end
end Go.Proofs.Ytkifenbcepicjaa.Fl
namespace Go.Proofs.Ytkifenbcepicjaa.Lv
open Go.RowKit Go.Proofs.YtkifenbcepicjaaW.PrintWords
set_option linter.unusedVariables false
set_option linter.unusedSimpArgs false
/-- A row that is only read. -/
def vF {α : Type} (d : Kd α) (e b : Nat) (v : Value) (xs : List α) : Fact := fun S W => Kd.V d e W b S v xs
theorem foot_v {α : Type} {d : Kd α} {e b : Nat} {W : World} {S : Nat → Prop} {v : Value} {xs : List α} (h : Kd.V d e W b S v xs) : Foot (vF d e b v xs S) W S := fun _ hW => Kd.V_step h hW
theorem Inv.v {α : Type} {d : Kd α} {e b b2 : Nat} {v : Value} {xs : List α} {w W W' : World} {Ps : List Fact} (h : Inv w W Ps) (hr : Kd.V d e W' b (fun k => W.heap.size ≤ k) v xs) (hb : Below W.heap.size W W') : Inv w W' (vF d e b2 v xs :: Ps) :=
  h.push hb (foot_v (Kd.V_mono (Kd.V_bound hr) (fun _ hk => hk)))
end Go.Proofs.Ytkifenbcepicjaa.Lv
namespace Go.Proofs.Ytkifenbcepicjaa.Fl
open Go.RowKit Go.Proofs.YtkifenbcepicjaaW.PrintWords Go.Proofs.YtkifenbcepicjaaW.PrintLast Go.Proofs.Ytkifenbcepicjaa.Lv Go.Proofs.Ytkifenbcepicjaa.Rg
set_option linter.unusedVariables false
set_option linter.unusedSimpArgs false
end Go.Proofs.Ytkifenbcepicjaa.Fl
namespace Go.Proofs.Ytkifenbcepicjaa.Fm
open Go.RowKit Go.Proofs.YtkifenbcepicjaaW.PrintWords Go.Proofs.YtkifenbcepicjaaW.PrintLast Go.Proofs.Ytkifenbcepicjaa.Lv Go.Proofs.Ytkifenbcepicjaa.Rg
open Go.Proofs.Ytkifenbcepicjaa.Fl (live_perm inv_perm inv_drop wpOp_put_rev CW Tab okT okT_seq okC left_erase_length seq_of)
set_option linter.unusedVariables false
set_option linter.unusedSimpArgs false
/-- What is made: its operation, its temporary, what lies in its block at first, what the temporary gets. -/
structure Var where
  i : Nat
  N : Tmp
  cs : Array Value
  t : TypeId
  out : Nat → Value
def putD : List Var → List (Option Nat) → Act → Act
  | f :: fs, some g :: gs, a => (putD fs gs a).put (some f.N) (f.out g)
  | _ :: fs, none :: gs, a => putD fs gs a
  | _, _, a => a
def boxes : List Var → List (Option Nat) → List Fact
  | f :: fs, some g :: gs => boxF g f.cs f.t :: boxes fs gs
  | _ :: fs, none :: gs => boxes fs gs
  | _, _ => []
def left : List Var → List (Option Nat) → List Nat
  | _ :: fs, some _ :: gs => left fs gs
  | f :: fs, none :: gs => f.i :: left fs gs
  | _, _ => []
def upd : List Var → List (Option Nat) → Nat → Nat → List (Option Nat)
  | f :: fs, none :: gs, j, g => if f.i = j then some g :: gs else none :: upd fs gs j g
  | _ :: fs, some x :: gs, j, g => some x :: upd fs gs j g
  | _, gs, _, _ => gs
theorem upd_length : ∀ (fs : List Var) (gs : List (Option Nat)) (j g : Nat), (upd fs gs j g).length = gs.length
  | [], _, _, _ => rfl
  | _ :: _, [], _, _ => rfl
  | f :: fs, none :: gs, j, g => by
    simp only [upd]
    split
    · rfl
    · simp [upd_length fs gs j g]
  | _ :: fs, some x :: gs, j, g => by simp [upd, upd_length fs gs j g]
theorem left_upd : ∀ (fs : List Var) (gs : List (Option Nat)) (j g : Nat), left fs (upd fs gs j g) = (left fs gs).erase j
  | [], _, _, _ => by simp [left]
  | _ :: _, [], _, _ => by simp [upd, left]
  | f :: fs, none :: gs, j, g => by
    simp only [upd]
    split
    · rename_i h; simp [left, h]
    · rename_i h; simp [left, left_upd fs gs j g, List.erase_cons, h]
  | _ :: fs, some x :: gs, j, g => by simp [upd, left, left_upd fs gs j g]
theorem boxes_mem : ∀ (fs : List Var) (gs : List (Option Nat)) (j g : Nat) (a : Act), (fs.map (·.N)).Nodup → j ∈ left fs gs → ∃ f ∈ fs, f.i = j ∧ putD fs (upd fs gs j g) a = (putD fs gs a).put (some f.N) (f.out g) ∧ (boxF g f.cs f.t :: boxes fs gs).Perm (boxes fs (upd fs gs j g))
  | [], _, _, _, _, _, hj => by simp [left] at hj
  | _ :: _, [], _, _, _, _, hj => by simp [left] at hj
  | f :: fs, none :: gs, j, g, a, hn, hj => by
    simp only [upd]
    split
    · rename_i h; exact ⟨f, List.mem_cons_self, h, rfl, List.Perm.refl _⟩
    · rename_i h
      have hj2 : j ∈ left fs gs := by
        rcases List.mem_cons.1 (show j ∈ f.i :: left fs gs from hj) with h1 | h1
        · exact absurd h1.symm h
        · exact h1
      obtain ⟨f2, h1, h2, h3, h4⟩ := boxes_mem fs gs j g a (List.nodup_cons.1 hn).2 hj2
      exact ⟨f2, List.mem_cons_of_mem _ h1, h2, h3, h4⟩
  | f :: fs, some x :: gs, j, g, a, hn, hj => by
    obtain ⟨f2, h1, h2, h3, h4⟩ := boxes_mem fs gs j g a (List.nodup_cons.1 hn).2 hj
    refine ⟨f2, List.mem_cons_of_mem _ h1, h2, ?_, (List.Perm.swap _ _ _).trans (h4.cons _)⟩
    simp only [upd, putD, h3]
    refine Act.put_comm _ _ _ (fun d hd => ?_)
    have hne : f.N ≠ f2.N := fun e => (List.nodup_cons.1 hn).1 (List.mem_map.2 ⟨f2, h1, e.symm⟩)
    injection hd with hd
    subst hd
    intro e
    injection e with e
    exact hne e
section
variable {P : Program} {ops : Array Oper} {Q : Exit → Act → World → Prop}
def apartB (ops : Array Oper) (fs : List Var) (chain : List St) : Bool :=
  fs.all fun f => match ops[f.i]? with
    | none => false
    | some o => (o.dst == some f.N) && chain.all fun s => match ops[idx s]? with
      | none => false
      | some oj => o.apart ops oj
theorem apart_of {fs : List Var} {chain : List St} (h : apartB ops fs chain = true) {f : Var} (hf : f ∈ fs) {s : St} (hs : s ∈ chain) {oj : Oper} (hj : ops[idx s]? = some oj) :
    f.N ∉ oj.looksAt ops ∧ oj.dst ≠ some f.N := by
  have h1 := List.all_eq_true.1 h f hf
  cases ho : ops[f.i]? with
  | none => rw [ho] at h1; exact absurd h1 (by simp)
  | some o =>
    rw [ho] at h1
    simp only [Bool.and_eq_true, beq_iff_eq] at h1
    have h2 := List.all_eq_true.1 h1.2 s hs
    rw [hj] at h2
    obtain ⟨h3, h4, _⟩ := Oper.apart_spec h2
    exact ⟨h3 _ h1.1, h4 _ h1.1⟩
theorem wpOp_putD {j : Nat} {oj : Oper} (hj : ops[j]? = some oj) (hsj : ∀ cs b, oj.op ≠ .select cs b) (hQ : ∀ (c : _) (a : Act) (d : Option Tmp) (v : Value) (w : World), Q (.panic c) a w → Q (.panic c) (a.put d v) w) {a : Act} {w : World} :
    ∀ (fs : List Var) (gs : List (Option Nat)) {K : Act → World → Prop}, (∀ f ∈ fs, f.N ∉ oj.looksAt ops ∧ oj.dst ≠ some f.N) → wpOp P ops Q j (fun a' w' => K (putD fs gs a') w') a w → wpOp P ops Q j K (putD fs gs a) w
  | [], _, _, _, h => h
  | _ :: _, [], _, _, h => h
  | f :: fs, none :: gs, _, ha, h => wpOp_putD hj hsj hQ fs gs (fun f2 h2 => ha f2 (List.mem_cons_of_mem _ h2)) h
  | f :: fs, some g :: gs, _, ha, h => by
    have hf := ha f List.mem_cons_self
    refine wpOp_put_rev hj (fun x hx => by injection hx with hx; subst hx; exact hf.1) (fun x hx => by injection hx with hx; subst hx; exact hf.2) hsj (fun c a w hq => hQ c a _ _ w hq) ?_
    exact wpOp_putD hj hsj hQ fs gs (fun f2 h2 => ha f2 (List.mem_cons_of_mem _ h2)) h
theorem yields_putD {S : World → Prop} {o : Oper} {v : Value} (hs : ∀ cs b, o.op ≠ .select cs b) {a : Act} : ∀ (fs : List Var) (gs : List (Option Nat)), (∀ f ∈ fs, f.N ∉ o.looksAt ops ∧ o.dst ≠ some f.N) → YieldsIf P ops S o v a → YieldsIf P ops S o v (putD fs gs a)
  | [], _, _, h => h
  | _ :: _, [], _, h => h
  | f :: fs, none :: gs, ha, h => yields_putD hs fs gs (fun f2 h2 => ha f2 (List.mem_cons_of_mem _ h2)) h
  | f :: fs, some g :: gs, ha, h => by
    have hf := ha f List.mem_cons_self
    have hn : ∀ d, some f.N = some d → d ∉ o.looksAt ops := fun x hx => by injection hx with hx; subst hx; exact hf.1
    exact (yields_putD hs fs gs (fun f2 h2 => ha f2 (List.mem_cons_of_mem _ h2)) h).of_same (execOp_put o hs _ _ _ hn) (wanted_put o _ _ _ hn)
theorem putD_put {d : Option Tmp} {v : Value} {a : Act} : ∀ (fs : List Var) (gs : List (Option Nat)), (∀ f ∈ fs, d ≠ some f.N) → (putD fs gs a).put d v = putD fs gs (a.put d v)
  | [], _, _ => rfl
  | _ :: _, [], _ => rfl
  | f :: fs, none :: gs, ha => putD_put fs gs (fun f2 h2 => ha f2 (List.mem_cons_of_mem _ h2))
  | f :: fs, some g :: gs, ha => by
    simp only [putD]
    rw [Act.put_comm _ _ _ (fun x hx => by injection hx with hx; subst hx; exact ha f List.mem_cons_self), putD_put fs gs (fun f2 h2 => ha f2 (List.mem_cons_of_mem _ h2))]
/-- What stands behind: all variables are made. -/
def FinW (P : Program) (ops : Array Oper) (Q : Exit → Act → World → Prop) (w0 : World) (Ps : List Fact) (fs : List Var) (rest : List St) : List Fact → Act → Prop := fun N a =>
  ∀ (gs : List Nat) (W : World), gs.length = fs.length → Inv w0 W (N ++ (boxes fs (gs.map some) ++ Ps)) → SeqW P ops Q (fun W => Inv w0 W Ps) rest (putD fs (gs.map some) a) W
def Makes (P : Program) (ops : Array Oper) (f : Var) : Prop :=
  ∃ o, ops[f.i]? = some o ∧ o.dst = some f.N ∧ (∀ y, Region.wanted o y = true) ∧ ∀ (a : Act) (w : World), (execOp a.eval o).run P w = .ok (.value (f.out w.heap.size)) (w.alloc (.cells f.cs f.t))
theorem left_nil : ∀ (fs : List Var) (gs : List (Option Nat)), gs.length = fs.length → left fs gs = [] → ∃ hs : List Nat, gs = hs.map some ∧ hs.length = fs.length
  | [], [], _, _ => ⟨[], rfl, rfl⟩
  | [], _ :: _, h, _ => by simp at h
  | _ :: _, [], h, _ => by simp at h
  | f :: fs, none :: gs, _, h => by simp [left] at h
  | f :: fs, some g :: gs, h, h2 => by
    obtain ⟨hs, h3, h4⟩ := left_nil fs gs (by simpa using h) h2
    exact ⟨g :: hs, by simp [h3], by simp [h4]⟩
theorem any_ {w0 : World} {Ps : List Fact} {fs : List Var} {rest : List St} (hs : Region.noSelect ops = true) (hQ : ∀ (c : _) (a : Act) (d : Option Tmp) (v : Value) (w : World), Q (.panic c) (a.put d v) w ↔ Q (.panic c) a w)
    (hn : (fs.map (·.N)).Nodup) (hm : ∀ f ∈ fs, Makes P ops f) : ∀ (n : Nat) (chain : List St) (N : List Fact) (a : Act) (gs : List (Option Nat)) (l : Array Bool) (fuel : Nat) (W : World),
    gs.length = fs.length → apartB ops fs chain = true → okC (rtab .any ops).2 rest n chain (left fs gs) l.toList = true → chain.length + (left fs gs).length + rest.length ≤ fuel → CW P ops Q w0 Ps (FinW P ops Q w0 Ps fs rest) chain N a → Inv w0 W (N ++ (boxes fs gs ++ Ps)) →
    wpAnyH P .any ops Q (fun W => Inv w0 W Ps) fuel l (putD fs gs a) W
  | 0, _, _, _, _, _, _, _, _, _, hok, _, _, _ => by simp [okC] at hok
  | n + 1, .take i :: r, N, a, gs, l, 0, W, _, _, _, hf, _, _ => by simp at hf
  | n + 1, .take i :: r, N, a, gs, l, fuel + 1, W, hl, hap, hok, hf, ⟨o, v, ho, hy, hc⟩, hi => by
    simp only [okC, Bool.and_eq_true] at hok
    have hap1 : ∀ f ∈ fs, f.N ∉ o.looksAt ops ∧ o.dst ≠ some f.N := fun f hf => apart_of hap hf List.mem_cons_self ho
    have hap2 : apartB ops fs r = true := by
      refine List.all_eq_true.2 (fun f hf => ?_)
      have h1 := List.all_eq_true.1 hap f hf
      split at h1
      · simp at h1
      · simp only [List.all_cons, Bool.and_eq_true] at h1 ⊢
        exact ⟨h1.1, h1.2.2⟩
    have hok2 : okC (rtab .any ops).2 rest n r (left fs gs) (l.setIfInBounds i true).toList = true := by rw [Array.toList_setIfInBounds]; exact hok.2
    refine wpAnyH_take (i := i) ho hs (by rw [free_eq]; exact hok.1.1) (by rw [ready_eq]; exact hok.1.2) (fun c a w => (hQ c a _ _ w).1) (yields_putD (Region.noSelect_spec hs i o · · ho) fs gs hap1 hy) (inv_drop (inv_drop hi)) ?_
    rw [putD_put fs gs (fun f hf => (hap1 f hf).2)]
    exact any_ hs hQ hn hm n r N _ gs _ fuel W hl hap2 hok2 (by simp at hf; omega) hc hi
  | n + 1, .one i :: r, N, a, gs, l, 0, W, _, _, _, hf, _, _ => by simp at hf
  | n + 1, .one i :: r, N, a, gs, l, fuel + 1, W, hl, hap, hok, hf, hc, hi => by
    simp only [okC, Bool.and_eq_true, bne_iff_ne, ne_eq] at hok
    have hap2 : apartB ops fs r = true := by
      refine List.all_eq_true.2 (fun f hf => ?_)
      have h1 := List.all_eq_true.1 hap f hf
      split at h1
      · simp at h1
      · simp only [List.all_cons, Bool.and_eq_true] at h1 ⊢
        exact ⟨h1.1, h1.2.2⟩
    rw [← ready_eq] at hok
    refine wpAnyH_all rfl hok.1 (fun j hj => ?_)
    have h2 := List.all_eq_true.1 hok.2 j hj
    rw [← Array.toList_setIfInBounds] at h2
    by_cases hji : j = i
    · subst hji
      rw [if_pos rfl] at h2
      cases ho : ops[j]? with
      | none => unfold wpOp; rw [ho]; exact absurd hj (by intro hj; obtain ⟨_, o, ho2, _⟩ := mem_ready.1 hj; rw [ho] at ho2; cases ho2)
      | some o =>
        refine wpOp_putD ho (Region.noSelect_spec hs j o · · ho) (fun c a d v w => (hQ c a d v w).2) fs gs (fun f hf => apart_of hap hf List.mem_cons_self ho) ?_
        refine wpOp_mono ?_ (hc (boxes fs gs ++ Ps) W (fun W' h' => inv_drop h') hi)
        rintro a' W' ⟨N', hi', hc'⟩
        exact ⟨inv_drop (inv_drop hi'), any_ hs hQ hn hm n r N' a' gs _ fuel W' hl hap2 h2 (by simp at hf; omega) hc' hi'⟩
    · rw [if_neg hji, Bool.and_eq_true] at h2
      have hmem : j ∈ left fs gs := by simpa using h2.1
      obtain ⟨f, hf1, hf2, hf3, hf4⟩ := boxes_mem fs gs j W.heap.size a hn hmem
      obtain ⟨o, ho, hod, how, hor⟩ := hm f hf1
      rw [hf2] at ho
      unfold wpOp
      simp only [ho, how, if_true]
      refine .inl ?_
      unfold Oper.wp
      rw [hor, Oper.upon_value, hod, ← hf3]
      have hinv : Inv w0 (W.alloc (.cells f.cs f.t)) (N ++ (boxes fs (upd fs gs j W.heap.size) ++ Ps)) := by
        refine inv_perm (hi.box f.cs f.t) ?_
        exact (List.perm_middle.symm).trans ((hf4.append_right Ps).append_left N)
      refine ⟨inv_drop (inv_drop hinv), any_ hs hQ hn hm n (.one i :: r) N a _ _ fuel _ (by rw [upd_length]; exact hl) hap (by rw [left_upd]; exact h2.2) ?_ hc hinv⟩
      rw [left_upd]
      have := left_erase_length hmem
      omega
  | n + 1, [], N, a, gs, l, fuel, W, hl, hap, hok, hf, hc, hi => by
    cases hr : left fs gs with
    | nil =>
      rw [hr] at hok
      simp only [okC] at hok
      obtain ⟨hs2, rfl, hl2⟩ := left_nil fs gs hl hr
      exact seq_any hs (fun c a d v w => (hQ c a d v w).1) rest fuel l _ W (by rw [hr] at hf; simpa using hf) (okT_seq rest l hok) (inv_drop (inv_drop hi)) (hc hs2 W hl2 hi)
    | cons x rem =>
      rw [hr] at hok hf
      simp only [okC, Bool.and_eq_true, bne_iff_ne, ne_eq] at hok
      cases fuel with
      | zero => simp at hf
      | succ fuel =>
        rw [← ready_eq] at hok
        refine wpAnyH_all rfl hok.1 (fun j hj => ?_)
        have h2 := List.all_eq_true.1 hok.2 j hj
        rw [Bool.and_eq_true, ← Array.toList_setIfInBounds] at h2
        have hmem : j ∈ left fs gs := by rw [hr]; simpa using h2.1
        obtain ⟨f, hf1, hf2, hf3, hf4⟩ := boxes_mem fs gs j W.heap.size a hn hmem
        obtain ⟨o, ho, hod, how, hor⟩ := hm f hf1
        rw [hf2] at ho
        unfold wpOp
        simp only [ho, how, if_true]
        refine .inl ?_
        unfold Oper.wp
        rw [hor, Oper.upon_value, hod, ← hf3]
        have hinv : Inv w0 (W.alloc (.cells f.cs f.t)) (N ++ (boxes fs (upd fs gs j W.heap.size) ++ Ps)) := by
          refine inv_perm (hi.box f.cs f.t) ?_
          exact (List.perm_middle.symm).trans ((hf4.append_right Ps).append_left N)
        refine ⟨inv_drop (inv_drop hinv), any_ hs hQ hn hm n [] N a _ _ fuel _ (by rw [upd_length]; exact hl) hap (by rw [left_upd, hr]; exact h2.2) ?_ hc hinv⟩
        rw [left_upd, hr]
        have := left_erase_length (l := x :: rem) (j := j) (by rw [← hr]; exact hmem)
        simp at hf ⊢
        simp at this
        omega
/-- The beginning. -/
theorem start {id : Nat} {a : Act} {w0 w : World} {Ps : List Fact} (T : Tab) (fs : List Var) (n : Nat) (chain rest : List St) (hT : rtab .any ops = (true, T)) (hm : P.follows .mixedOrders = true) (hl : chain.length + fs.length + rest.length ≤ T.length)
    (hn : (fs.map (·.N)).Nodup) (hap : apartB ops fs chain = true) (hok : okC T rest n chain (fs.map (·.i)) (List.replicate T.length false) = true) (hmk : ∀ f ∈ fs, Makes P ops f)
    (hS : Inv w0 w Ps) (h : CW P ops (NoPanic Q) w0 Ps (FinW P ops (NoPanic Q) w0 Ps fs rest) chain [] a) : (Code.region id ops true).wp P Q a w := by
  have e1 : ∀ l : List Var, left l (l.map fun _ => none) = l.map (·.i) := fun l => by induction l with
    | nil => rfl
    | cons f l ih => simp [left, ih]
  have e2 : ∀ l : List Var, boxes l (l.map fun _ => none) = [] := fun l => by induction l with
    | nil => rfl
    | cons f l ih => simp [boxes, ih]
  have e3 : ∀ l : List Var, putD l (l.map fun _ => none) a = a := fun l => by induction l with
    | nil => rfl
    | cons f l ih => simp [putD, ih]
  have hs : Region.noSelect ops = true := congrArg Prod.fst hT
  have hT2 : (rtab .any ops).2 = T := congrArg Prod.snd hT
  have hsz : T.length = ops.size := by rw [← hT2]; exact rtab_length
  rw [← hT2, rtab_length] at hok
  refine wp_region_noPanic (wp_region_held_drew (S := fun W => Inv w0 W Ps) hm hS.drew (fun hS => ?_))
  have := any_ (P := P) (ops := ops) (Q := NoPanic Q) (w0 := w0) (Ps := Ps) (fs := fs) (rest := rest) hs (fun _ _ _ _ _ => Iff.rfl) hn hmk n chain [] a (fs.map fun _ => none) (Array.replicate ops.size false) ops.size w.drew (by simp) hap (by rw [e1, Array.toList_replicate]; exact hok) (by rw [e1]; simp; omega) h (by rw [e2]; exact hS)
  rw [e3] at this
  exact this
section
variable {w0 : World} {Ps : List Fact} {Fin : List Fact → Act → Prop} {fs : List Var} {rest : List St}
theorem fin {F : List Fact} {a : Act} (h : ∀ (gs : List Nat) (W : World), gs.length = fs.length → Inv w0 W (F ++ (boxes fs (gs.map some) ++ Ps)) → SeqW P ops Q (fun W => Inv w0 W Ps) rest (putD fs (gs.map some) a) W) : CW P ops Q w0 Ps (FinW P ops Q w0 Ps fs rest) [] F a := h
theorem fin0 {F : List Fact} {a : Act} (h : CW P ops Q w0 Ps (Fl.End Q w0 Ps) rest F a) : CW P ops Q w0 Ps (FinW P ops Q w0 Ps [] rest) [] F a := fun gs W hg hi => by
  obtain rfl : gs = [] := List.length_eq_zero_iff.1 hg
  exact seq_of rest F a W h hi
theorem fin1 {v1 : Var} {F : List Fact} {a : Act} (h : ∀ g1 : Nat, CW P ops Q w0 Ps (Fl.End Q w0 Ps) rest (F ++ [boxF g1 v1.cs v1.t]) (a.put (some v1.N) (v1.out g1))) : CW P ops Q w0 Ps (FinW P ops Q w0 Ps [v1] rest) [] F a := fun gs W hg hi => by
  match gs, hg with
  | [g1], _ => exact seq_of rest _ _ W (h g1) (by rw [List.append_assoc]; exact hi)
theorem mk0 : ∀ f ∈ ([] : List Var), Makes P ops f := fun _ h => by simp at h
theorem mkc {f : Var} {fs : List Var} (h : Makes P ops f) (t : ∀ f ∈ fs, Makes P ops f) : ∀ g ∈ f :: fs, Makes P ops g := fun g hg => by
  rcases List.mem_cons.1 hg with rfl | hg
  · exact h
  · exact t g hg
end
end
end Go.Proofs.Ytkifenbcepicjaa.Fm
namespace Go.Proofs.Ytkifenbcepicjaa.Fl
open Go.RowKit Go.Proofs.YtkifenbcepicjaaW.PrintWords Go.Proofs.YtkifenbcepicjaaW.PrintLast Go.Proofs.Ytkifenbcepicjaa.Lv Go.Proofs.Ytkifenbcepicjaa.Rg
set_option linter.unusedVariables false
set_option linter.unusedSimpArgs false
section
variable {P : Program} {ops : Array Oper} {Q : Exit → Act → World → Prop} {w0 : World} {Ps : List Fact} {Fin : List Fact → Act → Prop}
/-- A row is appended to a row of the call's own that stands first. -/
theorem appRows {α : Type} {d : Kd α} {e t bytes : Nat} {z : Value} {i : Nat} {r : List St} {F : List Fact} {a : Act} {o : Oper} {N : Tmp} {s x : Operand} {v : Value} {xs ys : List α} {A : Option Addr} {m c : Nat} (hKM : ∀ (W : World) (base : Nat) (p : α) (cs : List Value), d.K W p cs → d.M W base (fun _ => False) p cs)
    (h1 : ops[i]? = some o) (hd : o.dst = some N) (hw : Region.wanted o (yielded ops a.tmps) = true) (ho2 : o.op = .call { callee := .builtin .append, args := #[s, x], argTypes := #[t, t] })
    (ht : P.underlying t = some (.slice e)) (hinfo : (P.info? e).map (fun i => (i.zero, i.size, i.bytes)) = some (some z, d.sz, bytes)) (hz : z.cells.size = d.sz) (hs0 : 0 < d.sz) (hb0 : 0 < bytes)
    (hs : a.eval s = v) (hx : a.eval x = .slice A m c) (hl : (xs.length + m) * bytes ≤ 140737488355328) (hC : ∀ W, Below w0.heap.size w0 W → d.C W A m ys)
    (h : ∀ v1, CW P ops Q w0 Ps Fin r (rowF d e w0.heap.size v1 (xs ++ ys) :: F) (a.put (some N) v1)) : CW P ops Q w0 Ps Fin (.one i :: r) (rowF d e w0.heap.size v xs :: F) a := by
  intro E W hE hi
  obtain ⟨S, hS, hSb, hgrow⟩ := Inv.grow hi
  have key := Kd.R_append_rows_step (P := P) (ops := ops) (Q := Q) (o := o) (a := a) (Kc := fun a' W' => ∃ N', Inv w0 W' (N' ++ E) ∧ CW P ops Q w0 Ps Fin r N' a') (Rr := d.K W) (w0 := w0) (W := W) d w0.heap.size hw s x t e z bytes ho2 ht hinfo hz hs0 hb0 v xs ys A m c (fun k => S k ∨ W.heap.size ≤ k) (fun _ => False) hs hx (Kd.R_mono hS (fun k hk => .inl hk)) (hC W hi.bel) (fun p cs hk => hKM W _ p cs hk) (fun _ hk => hk.elim) (fun k hk => .inr hk) hi.bel hi.bel.size hl (by
    intro v1 w1 hr hb hg hblk
    rw [hd]
    exact ⟨rowF d e w0.heap.size v1 (xs ++ ys) :: F, hgrow w1 v1 (xs ++ ys) hb (Kept.of_grown hg (Kept.refl W S) (fun k hk => .inl (hS.1 k hk))) hr, h v1⟩)
  rw [if_pos hw] at key
  unfold wpOp
  simp only [h1, hw, if_true]
  exact .inl key
/-- A row of none is laid. -/
theorem lit0 {α : Type} (d : Kd α) {e i : Nat} {r : List St} {F : List Fact} {a : Act} {o : Oper} {N : Tmp} (h1 : ops[i]? = some o) (hd : o.dst = some N) (hw : Region.wanted o (yielded ops a.tmps) = true) (hrun : ∀ W, (execOp a.eval o).run P W = .ok (.value (.slice (some ⟨W.heap.size, 0, none⟩) 0 0)) (W.alloc (.cells #[] e)))
    (h : ∀ v1, CW P ops Q w0 Ps Fin r (rowF d e w0.heap.size v1 [] :: F) (a.put (some N) v1)) : CW P ops Q w0 Ps Fin (.one i :: r) F a := by
  intro E W hE hi
  have key := Kd.R_lit_step (P := P) (ops := ops) (Q := Q) (o := o) (a := a) (Kc := fun a' W' => ∃ N', Inv w0 W' (N' ++ E) ∧ CW P ops Q w0 Ps Fin r N' a') d (w0 := W) (W := W) W.heap.size e hw hd (xs := []) (inner := []) (ok := fun _ => True) (okp := fun _ => True) (hrun W) (Reps.none _ _) (fun _ hk => hk) trivial (Below.refl _ _) (Nat.le_refl _) (by simp) (by
    intro v1 w1 hr hb _ _
    rw [hd]
    exact ⟨rowF d e w0.heap.size v1 [] :: F, hi.row hr hb, h v1⟩)
  rw [if_pos hw] at key
  unfold wpOp
  simp only [h1, hw, if_true]
  exact .inl key
theorem yields_cut {S : World → Prop} {o : Oper} {a : Act} (hw : Region.wanted o (yielded ops a.tmps) = true) (t : TypeId) (x : Operand) (lo hi mx : Option Operand) (ho : o.op = .slice t x lo hi mx) {e : TypeId} (ht : P.underlying t = some (.slice e)) {v : Value} (h : ∀ W, (Instr.slice t (a.eval x) (lo.map a.eval) (hi.map a.eval) (mx.map a.eval)).run P W = .ok v W) : YieldsIf P ops S o v a := .inl ⟨hw, fun W _ => by
  have h1 : (Instr.sliceAt t (a.eval x) (lo.map a.eval) (hi.map a.eval) (mx.map a.eval)).run P W = .ok v W := by
    rw [← h W]
    simp [Instr.sliceAt, run_underlying ht]
  unfold execOp
  simp only [ho, Sem.run_bind, h1, Result.andThen_ok]
  rfl⟩
end
end Go.Proofs.Ytkifenbcepicjaa.Fl
namespace Go.Proofs.Ytkifenbcepicjaa.Fl
open Go.RowKit Go.Proofs.YtkifenbcepicjaaW.PrintWords Go.Proofs.YtkifenbcepicjaaW.PrintLast Go.Proofs.Ytkifenbcepicjaa.Lv Go.Proofs.Ytkifenbcepicjaa.Rg
set_option linter.unusedVariables false
set_option linter.unusedSimpArgs false
section
variable {P : Program} {ops : Array Oper} {Q : Exit → Act → World → Prop} {w0 : World} {Ps : List Fact} {Fin : List Fact → Act → Prop}
/-- A store of one byte of a key. -/
theorem stK {i : Nat} {r : List St} {F F' : List Fact} {a : Act} {o : Oper} (j off : Nat) {g : Nat} {l : List Int} {t : TypeId} (x : Int) (hj : F[j]? = some (boxF g (Ky.bs l) t)) (hF : F' = F.set j (boxF g (Ky.bs (l.set off x)) t)) (ho : ops[i]? = some o) (hd : o.dst = none) (ty : TypeId) (xo y : Operand) (hop : o.op = .store ty xo y)
    (hx : a.eval xo = .pointer (some ⟨g, off, none⟩)) (hy : a.eval y = .int .u8 x) (hw : Region.wanted o (yielded ops a.tmps) = true) (hoff : off < l.length) (hi : (P.info? ty).map (·.size) = some 1) (h : CW P ops Q w0 Ps Fin r F' a) : CW P ops Q w0 Ps Fin (.one i :: r) F a :=
  storeC j off (.int .u8 x) hj (by rw [hF, ← Ky.bs_set]) ho hd ty xo y hop hx hy hw (by rw [Ky.bs_size]; exact hoff) hi rfl rfl h
theorem row_cell {W : World} {kd : IntKind} {b of n : Nat} {xs : List Int} (h : Kd.C (Kd.int kd) W (some ⟨b, of, none⟩) n xs) (k : Nat) {x : Int} (hk : xs[k]? = some x) (hn : k < n) : W.cell? ⟨b, of + k, none⟩ = some (.int kd x) := by
  obtain ⟨b2, o2, hA, hrow⟩ := Lx.row_cells (d := Kd.int kd) (f := fun x : Int => [.int kd x]) (fun _ _ _ h => h) (fun _ => by simp) h (by omega)
  injection hA with hA
  injection hA with h1 h2
  subst h1 h2
  have h3 := hrow k x hk 0 (.int kd x) rfl
  have hs : (Kd.int kd).sz = 1 := rfl
  rw [hs, Nat.mul_one, Nat.add_zero] at h3
  exact h3
/-- A row that is not empty lies somewhere. -/
theorem row_at {kd : IntKind} {e base : Nat} {W : World} {S : Nat → Prop} {v : Value} {xs : List Int} (h : Kd.R (Kd.int kd) e W base S v xs) (hp : 0 < xs.length) : ∃ b of c, v = .slice (some ⟨b, of, none⟩) xs.length c := by
  obtain ⟨A, c, rfl⟩ := Kd.R_slice h
  obtain ⟨b2, o2, hA, _⟩ := Lx.row_cells (d := Kd.int kd) (f := fun x : Int => [.int kd x]) (fun _ _ _ h => h) (fun _ => by simp) (Kd.R_reads' h).2.2 hp
  exact ⟨b2, o2, c, by rw [hA]⟩
/-- A load of a cell of a row of the call's own. -/
theorem ldRc {i : Nat} {r : List St} {F : List Fact} {a : Act} {o : Oper} (N : Option Tmp) (j k : Nat) {kd : IntKind} {e base b of c : Nat} {xs : List Int} {x : Int} {d : TypeDesc} (hj : F[j]? = some (rowF (Kd.int kd) e base (.slice (some ⟨b, of, none⟩) xs.length c) xs)) (hk : xs[k]? = some x) (hi2 : ops[i]? = some o) (hN : o.dst = N) (hw : Region.wanted o (yielded ops a.tmps) = true) (ty : TypeId) (xo : Operand) (ho : o.op = .load ty xo)
    (hx : a.eval xo = .pointer (some ⟨b, of + k, none⟩)) (hu : P.underlying ty = some d) (hd : d.isRow = false) (h : CW P ops Q w0 Ps Fin r F (a.put N (.int kd x))) : CW P ops Q w0 Ps Fin (.one i :: r) F a := by
  subst hN
  intro E W hE hinv
  have hlt : j < F.length := (List.getElem?_eq_some_iff.1 hj).1
  have := yieldsIf_load_cell (P := P) (ops := ops) (S := fun W => Inv w0 W (F ++ E)) hw ty xo ho b (of + k) hx (fun W hW => row_cell (hW.cR j (by rw [List.getElem?_append_left hlt]; exact hj)) k hk (List.getElem?_eq_some_iff.1 hk).1) hu hd
  exact this.wpOp hi2 hinv ⟨F, hinv, h⟩
end
end Go.Proofs.Ytkifenbcepicjaa.Fl
namespace Go.Proofs.Ytkifenbcepicjaa.Fm
open Go.RowKit Go.Proofs.YtkifenbcepicjaaW.PrintWords Go.Proofs.YtkifenbcepicjaaW.PrintLast Go.Proofs.Ytkifenbcepicjaa.Lv Go.Proofs.Ytkifenbcepicjaa.Rg
open Go.Proofs.Ytkifenbcepicjaa.Fl (live_perm inv_perm inv_drop wpOp_put_rev CW Tab okT okT_seq okC left_erase_length seq_of)
set_option linter.unusedVariables false
set_option linter.unusedSimpArgs false
section
variable {P : Program} {ops : Array Oper} {Q : Exit → Act → World → Prop}
/-- The beginning, where some facts may be written by the region. -/
theorem startF {id : Nat} {a : Act} {w0 w : World} {Ps F : List Fact} (T : Tab) (fs : List Var) (n : Nat) (chain rest : List St) (hT : rtab .any ops = (true, T)) (hm : P.follows .mixedOrders = true) (hl : chain.length + fs.length + rest.length ≤ T.length)
    (hn : (fs.map (·.N)).Nodup) (hap : apartB ops fs chain = true) (hok : okC T rest n chain (fs.map (·.i)) (List.replicate T.length false) = true) (hmk : ∀ f ∈ fs, Makes P ops f)
    (hS : Inv w0 w (F ++ Ps)) (h : CW P ops (NoPanic Q) w0 Ps (FinW P ops (NoPanic Q) w0 Ps fs rest) chain F a) : (Code.region id ops true).wp P Q a w := by
  have e1 : ∀ l : List Var, left l (l.map fun _ => none) = l.map (·.i) := fun l => by induction l with
    | nil => rfl
    | cons f l ih => simp [left, ih]
  have e2 : ∀ l : List Var, boxes l (l.map fun _ => none) = [] := fun l => by induction l with
    | nil => rfl
    | cons f l ih => simp [boxes, ih]
  have e3 : ∀ l : List Var, putD l (l.map fun _ => none) a = a := fun l => by induction l with
    | nil => rfl
    | cons f l ih => simp [putD, ih]
  have hs : Region.noSelect ops = true := congrArg Prod.fst hT
  have hT2 : (rtab .any ops).2 = T := congrArg Prod.snd hT
  rw [← hT2, rtab_length] at hok
  have hsz : T.length = ops.size := by rw [← hT2]; exact rtab_length
  refine wp_region_noPanic (wp_region_held_drew (S := fun W => Inv w0 W Ps) hm (inv_drop hS).drew (fun _ => ?_))
  have := any_ (P := P) (ops := ops) (Q := NoPanic Q) (w0 := w0) (Ps := Ps) (fs := fs) (rest := rest) hs (fun _ _ _ _ _ => Iff.rfl) hn hmk n chain F a (fs.map fun _ => none) (Array.replicate ops.size false) ops.size w.drew (by simp) hap (by rw [e1, Array.toList_replicate]; exact hok) (by rw [e1]; simp; omega) h (by rw [e2]; exact hS.drew)
  rw [e3] at this
  exact this
end
end Go.Proofs.Ytkifenbcepicjaa.Fm
namespace Go.Proofs.Ytkifenbcepicjaa.Fl
open Go.RowKit Go.Proofs.YtkifenbcepicjaaW.PrintWords Go.Proofs.YtkifenbcepicjaaW.PrintLast Go.Proofs.Ytkifenbcepicjaa.Lv Go.Proofs.Ytkifenbcepicjaa.Rg
set_option linter.unusedVariables false
set_option linter.unusedSimpArgs false
section
variable {P : Program} {ops : Array Oper} {Q : Exit → Act → World → Prop} {w0 : World} {Ps : List Fact} {Fin : List Fact → Act → Prop}
/-- Behind a chain, further steps. -/
def FinS (P : Program) (ops : Array Oper) (Q : Exit → Act → World → Prop) (w0 : World) (Ps : List Fact) (r2 : List St) : List Fact → Act → Prop := fun N a => ∀ W, Inv w0 W (N ++ Ps) → SeqW P ops Q (fun W => Inv w0 W Ps) r2 a W
theorem seq_app {r2 : List St} : ∀ (r : List St) (N : List Fact) (a : Act) (W : World), CW P ops Q w0 Ps (FinS P ops Q w0 Ps r2) r N a → Inv w0 W (N ++ Ps) → SeqW P ops Q (fun W => Inv w0 W Ps) (r ++ r2) a W
  | [], _, _, W, h, hi => h W hi
  | .take _ :: r, _, _, _, ⟨o, v, ho, hy, h⟩, hi => ⟨o, v, ho, hy, seq_app r _ _ _ h hi⟩
  | .one _ :: r, _, _, W, h, hi => wpOp_mono (fun a' W' ⟨N', hi', hc⟩ => ⟨inv_drop hi', seq_app r N' a' W' hc hi'⟩) (h Ps W (fun _ h => h) hi)
/-- The last step may write what was held so far. -/
theorem last_of {i : Nat} {N : List Fact} {a : Act} {W : World} (h : CW P ops Q w0 [] (fun N a => ∀ W, Inv w0 W N → Inv w0 W Ps ∧ Q .normal a W) [.one i] N a) (hi : Inv w0 W N) : SeqW P ops Q (fun W => Inv w0 W Ps) [.one i] a W :=
  wpOp_mono (fun a' W' ⟨N', hi', hc⟩ => hc W' (by rw [List.append_nil] at hi'; exact hi')) (h [] W (fun _ h => h) (by rw [List.append_nil]; exact hi))
theorem rows_at {d : Kd (List Int)} {e base : Nat} {W : World} {S : Nat → Prop} {v : Value} {xs : List (List Int)} (h : Kd.S d e W base S v xs) (hp : 0 < xs.length) : ∃ b c, v = .slice (some ⟨b, 0, none⟩) xs.length c := by
  obtain ⟨g, cap, h1, _⟩ := Kd.S_form h hp
  exact ⟨g, cap, h1⟩
/-- A row is laid in a block of its own and appended to rows of the call's own. -/
theorem seqAppS {U e t bytes : Nat} {z : Value} {F0 : List Fact} {v vr : Value} {xs : List (List Int)} {rb : List Int} {w W : World} {a : Act} {i1 i2 : Nat} {r : List St} {o1 o2 : Oper} {N1 N2 : Tmp} {s x : Operand} (hP : ∀ W, Inv w W F0 → Inv w W Ps) (hi : Inv w W (rowF (Kd.int .u8) U w.heap.size vr rb :: rowsF (Kd.slice U (Kd.int .u8)) e w.heap.size v xs :: F0))
    (h1 : ops[i1]? = some o1) (hd1 : o1.dst = some N1) (hw1 : Region.wanted o1 (yielded ops a.tmps) = true) (hrun : ∀ W, (execOp a.eval o1).run P W = .ok (.value (.slice (some ⟨W.heap.size, 0, none⟩) 1 1)) (W.alloc (.cells [vr].toArray e)))
    (h2 : ops[i2]? = some o2) (hd2 : o2.dst = some N2) (hw2 : ∀ u, Region.wanted o2 (yielded ops (a.put (some N1) u).tmps) = true) (ho2 : o2.op = .call { callee := .builtin .append, args := #[s, x], argTypes := #[t, t] })
    (ht : P.underlying t = some (.slice e)) (hinfo : (P.info? e).map (fun i => (i.zero, i.size, i.bytes)) = some (some z, 1, bytes)) (hz : z.cells.size = 1) (hb0 : 0 < bytes)
    (hs : ∀ u, (a.put (some N1) u).eval s = v) (hx : ∀ u, (a.put (some N1) u).eval x = u) (hl : (xs.length + 1) * bytes ≤ 140737488355328)
    (h : ∀ u b c w1, Inv w w1 (rowsF (Kd.slice U (Kd.int .u8)) e w.heap.size (.slice (some ⟨b, 0, none⟩) (xs.length + 1) c) (xs ++ [rb]) :: F0) → SeqW P ops Q (fun W => Inv w W Ps) r ((a.put (some N1) u).put (some N2) (.slice (some ⟨b, 0, none⟩) (xs.length + 1) c)) w1) : SeqW P ops Q (fun W => Inv w W Ps) (.one i1 :: .one i2 :: r) a W := by
  obtain ⟨S1, hS1, f1, S2, hS2, f2, h3⟩ := hi.live
  have hR : Kd.R (Kd.int .u8) U W w.heap.size S1 vr rb := f1.now
  have hS : Kd.S (Kd.slice U (Kd.int .u8)) e W w.heap.size S2 v xs := f2.now
  have o1_ : ∀ k, some k = vr.ownBlock → S1 k := fun k hk => hR.1 k hk.symm
  have o2_ : ∀ k, some k = v.ownBlock → S2 k := fun k hk => (Kd.S_R hS).1 k hk.symm
  refine oneK h1 (fun K hK => ?_)
  rw [if_pos hw1]
  unfold Oper.wp
  rw [hrun, Oper.upon_value, hd1]
  refine hK.out _ _ (hP _ (hi.below (below_alloc (Below.refl _ _) _)).tail.tail) ?_
  refine oneK h2 (fun K2 hK2 => ?_)
  refine Kd.S_append_step (w0 := w) (Kd.slice U (Kd.int .u8)) w.heap.size (hw2 _) s x t e z bytes ho2 ht hinfo hz Nat.zero_lt_one hb0 v xs rb [vr] (fun k => (S1 k ∨ S2 k) ∨ W.heap.size ≤ k) (fun k => some k = vr.ownBlock) (hs _) (hx _) (Kd.M_row (Kd.R_mono (Kd.R_tight rfl hR) (fun _ h_ => h_))) (fun k hk => ⟨.inl (.inl (o1_ k hk)), fun hk2 => (hS2 k (o2_ k hk2)).2 (o1_ k hk)⟩) (fun k hk => .inr hk)
    (Kd.S_mono hS (fun k hk => ⟨.inl (.inr hk), fun hk2 => (hS2 k hk).2 (o1_ k hk2)⟩)) hi.bel hi.bel.size hl ?_
  intro v1 w1 hS' hb hg hat
  rw [hd2]
  obtain ⟨b, c, rfl⟩ := rows_at hS' (by simp)
  rw [List.length_append, List.length_singleton] at hS' ⊢
  have hI : Inv w w1 (rowsF (Kd.slice U (Kd.int .u8)) e w.heap.size (.slice (some ⟨b, 0, none⟩) (xs.length + 1) c) (xs ++ [rb]) :: F0) := by
    refine ⟨hb, fun k => ((S1 k ∨ S2 k) ∨ W.heap.size ≤ k) ∧ k < w1.heap.size, fun k hk => ?_, foot_rows (Kd.S_mono (Kd.S_bound hS') (fun k hk => ⟨hk.1, hk.2.2.1⟩)), ?_⟩
    · rcases hk.1 with (hs1 | hs2) | hn
      · exact ⟨(hS1 k hs1).1, hk.2⟩
      · exact ⟨(hS2 k hs2).1.1, hk.2⟩
      · exact ⟨Nat.le_trans hi.bel.size hn, hk.2⟩
    · refine (h3.step (fun k hk => hg.block k hk.1.1.2 (fun e => hk.2 (o2_ k e)))).mono (fun k hk => ⟨⟨hk.1.1.1, Nat.lt_of_lt_of_le hk.1.1.2 hg.size⟩, fun hx => ?_⟩)
      rcases hx.1 with (hs1 | hs2) | hn
      · exact hk.1.2 hs1
      · exact hk.2 hs2
      · exact Nat.not_lt_of_le hn hk.1.1.2
  exact hK2.out _ _ (hP _ hI.tail) (h _ b c w1 hI)
/-- A load of a row's header. -/
theorem ldHdr {U : Nat} {i : Nat} {r : List St} {F : List Fact} {a : Act} {o : Oper} (N : Option Tmp) (j k : Nat) {e base b of c : Nat} {xs : List (List Int)} {x : List Int} {d : TypeDesc} (hj : F[j]? = some (rowsF (Kd.slice U (Kd.int .u8)) e base (.slice (some ⟨b, of, none⟩) xs.length c) xs)) (hk : xs[k]? = some x) (hi2 : ops[i]? = some o) (hN : o.dst = N) (hw : Region.wanted o (yielded ops a.tmps) = true) (ty : TypeId) (xo : Operand) (ho : o.op = .load ty xo)
    (hx : a.eval xo = .pointer (some ⟨b, of + k, none⟩)) (hu : P.underlying ty = some d) (hd : d.isRow = false) (h : ∀ A1 c1, CW P ops Q w0 Ps Fin r F (a.put N (.slice A1 x.length c1))) : CW P ops Q w0 Ps Fin (.one i :: r) F a := by
  subst hN
  intro E W hE hinv
  have hlt : j < F.length := (List.getElem?_eq_some_iff.1 hj).1
  obtain ⟨_, _, h2⟩ := hinv.cS j (by rw [List.getElem?_append_left hlt]; exact hj)
  have hkl := (List.getElem?_eq_some_iff.1 hk).1
  obtain ⟨ad, had, h3⟩ := h2 (by omega)
  obtain ⟨cs, _, ⟨A1, c1, rfl, _, _⟩, hc⟩ := h3 k x hk
  have hcell := hc 0 _ rfl
  injection had with had
  rw [← had] at hcell
  have hs : (Kd.slice U (Kd.int .u8)).sz = 1 := rfl
  rw [hs, Go.Addr.add_mid, Nat.mul_one, Nat.add_zero] at hcell
  have := yieldsIf_load_cell (P := P) (ops := ops) (S := fun W' => W'.cell? ⟨b, of + k, none⟩ = some (.slice A1 x.length c1)) hw ty xo ho b (of + k) hx (fun _ hW => hW) hu hd
  exact this.wpOp hi2 hcell ⟨F, hinv, h A1 c1⟩
end
/-- A box of which one cell is not told. -/
def gapF (g : Nat) (cs : Array Value) (off : Nat) (t : TypeId) : Fact := fun S W => ∃ u : Int, boxF g (cs.setIfInBounds off (.int .i64 u)) t S W
theorem gap_of {w W : World} {g : Nat} {cs : Array Value} {t : TypeId} {Ps : List Fact} (off : Nat) (u : Int) (h : Inv w W (boxF g (cs.setIfInBounds off (.int .i64 u)) t :: Ps)) : Inv w W (gapF g cs off t :: Ps) := by
  obtain ⟨S, h1, h2, h3⟩ := h.live
  exact ⟨h.bel, S, h1, fun W' hW => ⟨u, h2 W' hW⟩, h3⟩
theorem gap_open {w W : World} {g off : Nat} {cs : Array Value} {t : TypeId} {Ps : List Fact} (h : Inv w W (gapF g cs off t :: Ps)) : ∃ u : Int, Inv w W (boxF g (cs.setIfInBounds off (.int .i64 u)) t :: Ps) := by
  obtain ⟨S, h1, h2, h3⟩ := h.live
  obtain ⟨u, hs, hb⟩ := h2.now
  exact ⟨u, h.bel, S, h1, foot_box hs hb, h3⟩
theorem gap_cell {w W : World} {i g off : Nat} {cs : Array Value} {t : TypeId} {Ps : List Fact} (h : Inv w W Ps) (hi : Ps[i]? = some (gapF g cs off t)) (j : Nat) (hj : off ≠ j) {v : Value} (hv : cs[j]? = some v) : W.cell? ⟨g, j, none⟩ = some v := by
  obtain ⟨S, _, u, _, hb⟩ := h.get i hi
  exact (blk_cell hb j).trans (by rw [Array.getElem?_setIfInBounds_ne hj]; exact hv)
end Go.Proofs.Ytkifenbcepicjaa.Fl
namespace Go.Proofs.Ytkifenbcepicjaa.Fm
open Go.RowKit Go.Proofs.YtkifenbcepicjaaW.PrintWords Go.Proofs.YtkifenbcepicjaaW.PrintLast Go.Proofs.Ytkifenbcepicjaa.Lv Go.Proofs.Ytkifenbcepicjaa.Rg
open Go.Proofs.Ytkifenbcepicjaa.Fl (CW FinS seq_app)
set_option linter.unusedVariables false
set_option linter.unusedSimpArgs false
theorem fin1S {P : Program} {ops : Array Oper} {Q : Exit → Act → World → Prop} {w0 : World} {Ps : List Fact} {v1 : Var} {r1 r2 : List St} {F : List Fact} {a : Act} (h : ∀ g1 : Nat, CW P ops Q w0 Ps (FinS P ops Q w0 Ps r2) r1 (F ++ [boxF g1 v1.cs v1.t]) (a.put (some v1.N) (v1.out g1))) : CW P ops Q w0 Ps (FinW P ops Q w0 Ps [v1] (r1 ++ r2)) [] F a := fun gs W hg hi => by
  match gs, hg with
  | [g1], _ => exact seq_app r1 _ _ W (h g1) (by rw [List.append_assoc]; exact hi)
end Go.Proofs.Ytkifenbcepicjaa.Fm
namespace Go.Proofs.Ytkifenbcepicjaa.Fz
open Go.RowKit Go.Proofs.YtkifenbcepicjaaW.PrintWords Go.Proofs.YtkifenbcepicjaaW.PrintLast Go.Proofs.Ytkifenbcepicjaa.Lv Go.Proofs.Ytkifenbcepicjaa.Rg
set_option linter.unusedVariables false
set_option linter.unusedSimpArgs false
section
variable {P : Program} {ops : Array Oper} {Q Q' : Exit → Act → World → Prop} {S : World → Prop}
/-- What stands behind all operations but the last: that one. -/
def LastQ (P : Program) (ops : Array Oper) (Q : Exit → Act → World → Prop) (z : Nat) : Exit → Act → World → Prop
  | .normal, a, w => wpOp P ops (NoPanic Q) z (fun a' w' => Q .normal a' w') a w
  | _, _, _ => False
theorem wpOp_post {j : Nat} {K : Act → World → Prop} {a : Act} {w : World} (hQ : ∀ c a w, Q (.panic c) a w → Q' (.panic c) a w) (hL : LetsOut Q → LetsOut Q') (h : wpOp P ops Q j K a w) : wpOp P ops Q' j K a w := by
  unfold wpOp at *
  cases ho : ops[j]? with
  | none => simpa only [ho] using h
  | some o =>
    simp only [ho] at h ⊢
    split
    · rename_i hw
      simp only [hw, if_true] at h
      rcases h with h | h
      case inr => exact .inr ⟨h.1, hL h.2⟩
      refine .inl ?_
      unfold Oper.wp at *
      generalize (execOp a.eval o).run P w = r at *
      cases r with
      | ok n w' =>
        cases n <;> simp only [Oper.upon] at h ⊢
        case value u => exact h
        case skip => exact h
        case defer q => exact h
        case enter f args =>
          refine Calls.mono h fun e w'' he => ?_
          cases e with
          | returned u => exact he
          | panicked c => exact hQ _ _ _ he
          | outgrown => exact hL he
        case row row args => exact h
      | halt x w' =>
        cases x <;> simp only [Oper.upon] at h ⊢
        case panic u => exact hQ _ _ _ h
    · rename_i hw
      simp only [hw] at h
      exact h
/-- The table says: z waits for all others, and each waits for elder ones alone. -/
def lastB (T : List (List Nat × List Nat)) (z : Nat) : Bool := decide (z < T.length) && (List.range T.length).all fun k => match T[k]? with
  | none => false
  | some r => r.1.all (fun j => decide (j < k)) && (k == z || match T[z]? with | none => false | some q => q.1.contains k)
theorem ready_least {T : List (List Nat × List Nat)} {l : List Bool} (hl : l.length = T.length) (hT : ∀ (k : Nat) (r : List Nat × List Nat), T[k]? = some r → ∀ j ∈ r.1, j < k) : ∀ (n k : Nat), k ≤ n → k < T.length → l.getD k true = false → readyT T l ≠ []
  | n, k, hkn, hk, hun => by
    by_cases hall : ∀ j, j < k → l.getD j true = true
    · intro h0
      have hmem : k ∈ readyT T l := by
        unfold readyT
        rw [List.mem_filter, List.mem_range]
        refine ⟨hk, ?_⟩
        unfold readyAt
        rw [hun, List.getElem?_eq_getElem hk]
        simp only [Bool.not_false, Bool.true_and, List.all_eq_true]
        intro j hj
        have hjk := hT k _ (List.getElem?_eq_getElem hk) j hj
        have := hall j hjk
        rw [List.getD_eq_getElem?_getD, List.getElem?_eq_getElem (by omega)] at this ⊢
        simpa using this
      rw [h0] at hmem
      cases hmem
    · obtain ⟨j, hj⟩ := Classical.not_forall.1 hall
      obtain ⟨hjk, hj2⟩ := Classical.not_imp.1 hj
      match n with
      | 0 => omega
      | n + 1 => exact ready_least hl hT n j (by omega) (by omega) (by simpa using hj2)
theorem mark {z : Nat} (hz : lastB (rtab .any ops).2 z = true) : ∀ (f : Nat) (l : Array Bool) (a : Act) (w : World), l.size = ops.size → l.toList.getD z true = false → wpAnyH P .any ops (LastQ P ops Q z) S f (l.setIfInBounds z true) a w → wpAny P .any ops (NoPanic Q) (f + 1) l a w := by
  have hlen : (rtab .any ops).2.length = ops.size := rtab_length
  unfold lastB at hz
  simp only [Bool.and_eq_true, decide_eq_true_eq, List.all_eq_true, List.mem_range] at hz
  obtain ⟨hzl, hz2⟩ := hz
  have hT : ∀ (k : Nat) (r : List Nat × List Nat), (rtab .any ops).2[k]? = some r → ∀ j ∈ r.1, j < k := fun k r hk j hj => by
    have h1 := hz2 k (List.getElem?_eq_some_iff.1 hk).1
    rw [hk] at h1
    simp only [Bool.and_eq_true, List.all_eq_true, decide_eq_true_eq] at h1
    exact h1.1 j hj
  have hw : ∀ q : List Nat × List Nat, (rtab .any ops).2[z]? = some q → ∀ k, k < ops.size → k ≠ z → k ∈ q.1 := fun q hq k hk hkz => by
    have h1 := hz2 k (by omega)
    rw [List.getElem?_eq_getElem (by omega), hq] at h1
    simp only [Bool.and_eq_true, Bool.or_eq_true, beq_iff_eq] at h1
    rcases h1.2 with h2 | h2
    · exact absurd h2 hkz
    · simpa using h2
  intro f
  induction f with
  | zero =>
    intro l a w hl hun H
    refine ⟨fun h0 => ?_, fun i hi => ?_⟩
    · rw [ready_eq] at h0
      exact absurd h0 (ready_least (by rw [Array.length_toList, hl, hlen]) hT z z (Nat.le_refl _) hzl hun)
    · by_cases hiz : i = z
      · subst hiz
        refine wpOp_mono (fun a' w' hq => ?_) (show wpOp P ops (NoPanic Q) i (fun a' w' => Q .normal a' w') a w from H.2)
        exact ⟨H.1, NoPanic.normal hq⟩
      · have := ready_mono hi hiz
        rw [H.1] at this
        cases this
  | succ f ih =>
    intro l a w hl hun H
    refine ⟨fun h0 => ?_, fun i hi => ?_⟩
    · rw [ready_eq] at h0
      exact absurd h0 (ready_least (by rw [Array.length_toList, hl, hlen]) hT z z (Nat.le_refl _) hzl hun)
    · by_cases hiz : i = z
      · subst hiz
        have hr : Region.ready .any ops (l.setIfInBounds i true) = [] := by
          apply List.eq_nil_iff_forall_not_mem.2
          intro k hk
          have hkz : k ≠ i := fun e => by
            subst e
            have := (mem_ready.1 hk).1
            rw [Array.getD_eq_getD_getElem?, Array.getElem?_setIfInBounds_self_of_lt (by omega)] at this
            simp at this
          have hk2 := hi
          rw [ready_eq] at hk2
          unfold readyT at hk2
          rw [List.mem_filter] at hk2
          have h3 := hk2.2
          unfold readyAt at h3
          rw [List.getElem?_eq_getElem hzl] at h3
          simp only [Bool.and_eq_true, List.all_eq_true] at h3
          have hks : k < ops.size := by
            obtain ⟨_, o, ho, _⟩ := mem_ready.1 hk
            exact (Array.getElem?_eq_some_iff.1 ho).1
          have h4 := h3.2 k (hw _ (List.getElem?_eq_getElem hzl) k hks hkz)
          have h5 := (mem_ready.1 hk).1
          rw [Array.getD_eq_getD_getElem?, Array.getElem?_setIfInBounds_ne (Ne.symm hkz)] at h5
          rw [List.getD_eq_getElem?_getD, Array.getElem?_toList, Array.getElem?_eq_getElem (by omega)] at h4
          rw [Array.getElem?_eq_getElem (by omega)] at h5
          simp at h4 h5
          rw [h4] at h5
          cases h5
        have hq0 : LastQ P ops Q i .normal a w := H.1 hr
        refine wpOp_mono (fun a' w' hq => ?_) (show wpOp P ops (NoPanic Q) i (fun a' w' => Q .normal a' w') a w from hq0)
        exact ⟨fun _ => NoPanic.normal hq, by rw [hr]; simp⟩
      · have h1 := H.2 i (ready_mono hi hiz)
        refine wpOp_mono (fun a' w' hq => ?_) (wpOp_post (Q := LastQ P ops Q z) (Q' := NoPanic Q) (fun c a w h => False.elim h) (fun ⟨_, _, h⟩ => False.elim h) h1)
        refine ih (l.setIfInBounds i true) a' w' (by simpa using hl) ?_ ?_
        · rw [Array.toList_setIfInBounds, List.getD_eq_getElem?_getD, List.getElem?_set_ne hiz, ← List.getD_eq_getElem?_getD]
          exact hun
        · rw [Array.setIfInBounds_comm _ _ hiz]
          exact hq.2
open Go.Proofs.Ytkifenbcepicjaa.Fl (live_perm inv_perm inv_drop CW Tab okC)
open Go.Proofs.Ytkifenbcepicjaa.Fm (Var putD boxes left apartB FinW Makes any_)
/-- The beginning: z is the last one. -/
theorem startZ {id : Nat} {a : Act} {w0 w : World} {Ps F : List Fact} (z : Nat) (T : Tab) (fs : List Var) (n : Nat) (chain rest : List St) (hT : rtab .any ops = (true, T)) (hzT : lastB T z = true) (hm : P.follows .mixedOrders = true) (hl : chain.length + fs.length + rest.length + 1 ≤ T.length)
    (hn : (fs.map (·.N)).Nodup) (hap : apartB ops fs chain = true) (hok : okC T rest n chain (fs.map (·.i)) ((List.replicate T.length false).set z true) = true) (hmk : ∀ f ∈ fs, Makes P ops f)
    (hS : Inv w0 w (F ++ Ps)) (h : CW P ops (LastQ P ops Q z) w0 Ps (FinW P ops (LastQ P ops Q z) w0 Ps fs rest) chain F a) : (Code.region id ops true).wp P Q a w := by
  have e1 : ∀ l : List Var, left l (l.map fun _ => none) = l.map (·.i) := fun l => by induction l with
    | nil => rfl
    | cons f l ih => simp [left, ih]
  have e2 : ∀ l : List Var, boxes l (l.map fun _ => none) = [] := fun l => by induction l with
    | nil => rfl
    | cons f l ih => simp [boxes, ih]
  have e3 : ∀ l : List Var, putD l (l.map fun _ => none) a = a := fun l => by induction l with
    | nil => rfl
    | cons f l ih => simp [putD, ih]
  have hs : Region.noSelect ops = true := congrArg Prod.fst hT
  have hT2 : (rtab .any ops).2 = T := congrArg Prod.snd hT
  have hzl : z < ops.size := by
    have := hzT
    unfold lastB at this
    rw [Bool.and_eq_true, ← hT2, rtab_length] at this
    exact of_decide_eq_true this.1
  rw [← hT2] at hzT
  rw [← hT2, rtab_length] at hok
  have hsz : T.length = ops.size := by rw [← hT2]; exact rtab_length
  have := any_ (P := P) (ops := ops) (Q := LastQ P ops Q z) (w0 := w0) (Ps := Ps) (fs := fs) (rest := rest) hs (fun _ _ _ _ _ => Iff.rfl) hn hmk n chain F a (fs.map fun _ => none) ((Array.replicate ops.size false).setIfInBounds z true) (ops.size - 1) w.drew (by simp) hap (by rw [e1, Array.toList_setIfInBounds, Array.toList_replicate]; exact hok) (by rw [e1]; simp; omega) h (by rw [e2]; exact hS.drew)
  rw [e3] at this
  refine wp_region_noPanic (wp_region_any hm ?_)
  have h2 := mark hzT (ops.size - 1) (Array.replicate ops.size false) a w.drew (by simp) (by rw [Array.toList_replicate, List.getD_eq_getElem?_getD, List.getElem?_replicate, if_pos hzl]; rfl) this
  rw [show ops.size - 1 + 1 = ops.size from by omega] at h2
  exact h2
/-- The last operation, walked in a chain of its own. -/
theorem last {z : Nat} {w0 : World} {N : List Fact} {a : Act} {W : World} (h : CW P ops (NoPanic Q) w0 [] (fun N a => ∀ W, Inv w0 W N → Q .normal a W) [.one z] N a) (hi : Inv w0 W N) : LastQ P ops Q z .normal a W :=
  wpOp_mono (fun a' W' ⟨N', hi', hc⟩ => hc W' (by rw [List.append_nil] at hi'; exact hi')) (h [] W (fun _ h => h) (by rw [List.append_nil]; exact hi))
end
section
variable {P : Program} {ops : Array Oper} {S : World → Prop}
theorem quo_run (t : TypeId) (v c : Int) (hc : c ≠ 0) (W : World) : (binOp .quo t (.int .i64 v) (.int .i64 c)).run P W = .ok (.int .i64 (IntKind.i64.wrap (v.tdiv c))) W := by
  simp only [Go.binOp_quo, Op.intDiv, if_neg hc]
  rfl
theorem rem_run (t : TypeId) (v c : Int) (hc : c ≠ 0) (W : World) : (binOp .rem t (.int .i64 v) (.int .i64 c)).run P W = .ok (.int .i64 (v.tmod c)) W := by
  simp only [Go.binOp_rem, Op.intDiv, if_neg hc]
  rfl
theorem yields_quo {o : Oper} {a : Act} (hw : Region.wanted o (yielded ops a.tmps) = true) (t t2 : TypeId) (x y : Operand) (ho : o.op = .binOp .quo t x y t2) (v c q : Int) (hx : a.eval x = .int .i64 v) (hy : a.eval y = .int .i64 c) (hc : c ≠ 0) (hq : IntKind.i64.wrap (v.tdiv c) = q) : YieldsIf P ops S o (.int .i64 q) a := .inl ⟨hw, fun w _ => by
  unfold execOp
  simp only [ho, hx, hy, Sem.run_bind, Go.eqGuard_quo, Sem.run_pure, Result.andThen_ok, quo_run t v c hc, hq]⟩
theorem yields_rem {o : Oper} {a : Act} (hw : Region.wanted o (yielded ops a.tmps) = true) (t t2 : TypeId) (x y : Operand) (ho : o.op = .binOp .rem t x y t2) (v c q : Int) (hx : a.eval x = .int .i64 v) (hy : a.eval y = .int .i64 c) (hc : c ≠ 0) (hq : v.tmod c = q) : YieldsIf P ops S o (.int .i64 q) a := .inl ⟨hw, fun w _ => by
  unfold execOp
  simp only [ho, hx, hy, Sem.run_bind, Go.eqGuard_rem, Sem.run_pure, Result.andThen_ok, rem_run t v c hc, hq]⟩
end
end Go.Proofs.Ytkifenbcepicjaa.Fz
namespace Go.Proofs.Ytkifenbcepicjaa.Ky
open Go.RowKit Go.Proofs.YtkifenbcepicjaaW.PrintWords
set_option linter.unusedVariables false
set_option linter.unusedSimpArgs false
theorem row_at {w : World} {A : Option Addr} {n : Nat} {ys : List Int} (h : (Kd.int .u8).C w A n ys) (hp : 0 < n) : ∃ b o, A = some ⟨b, o, none⟩ ∧ ∀ j x, ys[j]? = some x → w.cell? ⟨b, o + j, none⟩ = some (.int .u8 x) := by
  obtain ⟨h1, _, h2⟩ := h
  obtain ⟨ad, rfl, h3⟩ := h2 hp
  have hcell : ∀ j x, ys[j]? = some x → w.cell? (ad.add j) = some (.int .u8 x) := fun j x hj => by
    obtain ⟨cs, _, hk, hc⟩ := h3 j x hj
    obtain rfl : cs = [.int .u8 x] := hk
    have := hc 0 (.int .u8 x) rfl
    rw [show j * (Kd.int .u8).sz + 0 = j from by show j * 1 + 0 = j; omega] at this
    exact this
  obtain ⟨b, o, s⟩ := ad
  obtain ⟨x, hx⟩ : ∃ x, ys[0]? = some x := ⟨_, List.getElem?_eq_getElem (by omega)⟩
  have h0 := hcell 0 x hx
  have hs : s = none := by
    cases s with
    | none => rfl
    | some s =>
      exfalso
      have e : (⟨b, o, some s⟩ : Addr).add 0 = ⟨b, o, some s⟩ := rfl
      rw [e] at h0
      unfold World.cell? at h0
      dsimp only at h0
      split at h0
      · simp at h0
      · simp at h0
  subst hs
  exact ⟨b, o, rfl, fun j x hj => by have := hcell j x hj; rwa [Go.Addr.add_mid] at this⟩
theorem range_key {w w1 : World} {b o n : Nat} {ys : List Int} (hb : Below w.heap.size w w1) (h : ∀ j x, ys[j]? = some x → w.cell? ⟨b, o + j, none⟩ = some (.int .u8 x)) : w1.rangeAt b (o + n) (((ys.drop n).take 16).map (Value.int .u8)) := by
  intro j v hj
  rw [List.getElem?_map, List.getElem?_take] at hj
  split at hj
  · rw [List.getElem?_drop] at hj
    obtain ⟨x, hx, rfl⟩ := Option.map_eq_some_iff.1 hj
    rw [show o + n + j = o + (n + j) from by omega]
    exact pw_cell_below hb (h _ x hx)
  · simp at hj
theorem range_len {ys : List Int} {n : Nat} (h : n + 16 ≤ ys.length) : Key ((ys.drop n).take 16) := by simp [Key]; omega
theorem run_arrayAt (A : Option Addr) (c : Nat) (w : World) : (Instr.arrayAt 26 (.slice A 16 c)).run Try.prog w = .ok (.pointer A) w := by
  simp only [Instr.arrayAt, Sem.run_bind, run_underlying hK w, Result.andThen_ok]
  rw [if_neg (by omega)]
  rfl
end Go.Proofs.Ytkifenbcepicjaa.Ky
namespace Go.Proofs.Ytkifenbcepicjaa.Ky
open Go.RowKit Go.Proofs.YtkifenbcepicjaaW.PrintWords
set_option linter.unusedVariables false
set_option linter.unusedSimpArgs false
theorem run_part8 {l : List Int} {i : Nat} {x : Int} (h : l[i]? = some x) (w : World) : (part 5 (bs l) i).run Try.prog w = .ok (.int .u8 x) w := by
  have h2 := bs_get h
  simp [part, isAgg, Sem.run_bind, run_underlying Try.underlying5 w, Result.andThen_ok, h2]
theorem eq_items {a b : List Int} (ha : Key a) (hb : Key b) (d : Nat) (w : World) : ∀ (k i : Nat), i + k = 16 → (Op.eqItems (d + 1) 5 1 (bs a) (bs b) (List.range' i k)).run Try.prog w = .ok (decide (a.drop i = b.drop i)) w
  | 0, i, h => by
    rw [List.drop_eq_nil_of_le (by rw [ha]; omega), List.drop_eq_nil_of_le (by rw [hb]; omega)]
    simp [Op.eqItems]
  | k + 1, i, h => by
    have hi : i < a.length := by rw [ha]; omega
    have hj : i < b.length := by rw [hb]; omega
    have p1 := run_part8 (List.getElem?_eq_getElem hi) w
    have p2 := run_part8 (List.getElem?_eq_getElem hj) w
    have p3 := run_equalIn_int (P := Try.prog) w d 5 .u8 .u8 a[i] b[i] Try.underlying5
    have ih := eq_items ha hb d w k (i + 1) (by omega)
    rw [List.range'_succ]
    simp only [Op.eqItems, Sem.run_bind, Nat.mul_one, p1, p2, p3, Result.andThen_ok]
    by_cases e : a[i] = b[i]
    · have hd : decide (a.drop (i + 1) = b.drop (i + 1)) = decide (a.drop i = b.drop i) := decide_eq_decide.mpr ⟨fun h => by rw [List.drop_eq_getElem_cons hi, List.drop_eq_getElem_cons hj, h, e], fun h => by rw [List.drop_eq_getElem_cons hi, List.drop_eq_getElem_cons hj] at h; exact (List.cons.inj h).2⟩
      rw [e]
      simp only [BEq.rfl, Bool.not_true, Bool.false_eq_true, if_false]
      rw [ih, hd]
    · have hd : decide (a.drop i = b.drop i) = false := decide_eq_false fun h => by
        rw [List.drop_eq_getElem_cons hi, List.drop_eq_getElem_cons hj] at h
        exact e (List.cons.inj h).1
      have e2 : (a[i] == b[i]) = false := by simpa using e
      rw [e2, hd]
      simp
theorem run_eqKey {a b : List Int} (ha : Key a) (hb : Key b) (w : World) : (Op.equal 26 (.agg (bs a)) (.agg (bs b))).run Try.prog w = .ok (decide (a = b)) w := by
  have h0 : (Try.prog.info? 5).map (·.size) = some 1 := by kernel_rfl
  obtain ⟨i8, h8, _⟩ := Option.map_eq_some_iff.1 h0
  have hc : Try.prog.cellsOf 5 = 1 := by kernel_rfl
  have h := run_equalIn_array (P := Try.prog) w 9999 (bs a) (bs b) hK h8
  rw [hc, List.range_eq_range'] at h
  have h2 := eq_items ha hb 9998 w 16 0 (by omega)
  rw [List.drop_zero, List.drop_zero] at h2
  exact h.trans h2
end Go.Proofs.Ytkifenbcepicjaa.Ky
namespace Go.Proofs.Ytkifenbcepicjaa.Ky
open Go.RowKit Go.Proofs.YtkifenbcepicjaaW.PrintWords
set_option linter.unusedVariables false
set_option linter.unusedSimpArgs false
theorem yields_eqKey {ops : Array Oper} {S : World → Prop} {o : Oper} {act : Act} {a b : List Int} (ha : Key a) (hb : Key b) (hw : Region.wanted o (yielded ops act.tmps) = true) (x y : Operand) (rt : TypeId) (ho : o.op = .binOp .eql 26 x y rt) (hx : act.eval x = .agg (bs a)) (hy : act.eval y = .agg (bs b)) : YieldsIf Try.prog ops S o (.bool (decide (a = b))) act := by
  refine Or.inl ⟨hw, fun w _ => ?_⟩
  unfold execOp
  simp only [ho, hx, hy, Sem.run_bind, binOp]
  go_simp
  rw [run_eqKey ha hb w]
  rfl
theorem yields_eqKeyB {ops : Array Oper} {S : World → Prop} {o : Oper} {act : Act} {a b : List Int} {v : Bool} (hv : decide (a = b) = v) (ha : Key a) (hb : Key b) (hw : Region.wanted o (yielded ops act.tmps) = true) (x y : Operand) (rt : TypeId) (ho : o.op = .binOp .eql 26 x y rt) (hx : act.eval x = .agg (bs a)) (hy : act.eval y = .agg (bs b)) : YieldsIf Try.prog ops S o (.bool v) act := by
  subst hv
  exact yields_eqKey ha hb hw x y rt ho hx hy
end Go.Proofs.Ytkifenbcepicjaa.Ky
namespace Go.Proofs.Ytkifenbcepicjaa.Ky
open Go.RowKit Go.Proofs.YtkifenbcepicjaaW.PrintWords
set_option linter.unusedVariables false
set_option linter.unusedSimpArgs false
theorem less_of : ∀ (j : Nat) (a b : List Int) (x y : Int), a[j]? = some x → b[j]? = some y → (∀ i, i < j → a[i]? = b[i]?) → x ≠ y → Ky.lessF a b = decide (x < y)
  | 0, [], _, _, _, h, _, _, _ => by simp at h
  | 0, _ :: _, [], _, _, _, h, _, _ => by simp at h
  | 0, p :: a, q :: b, x, y, hx, hy, _, hne => by
    obtain rfl : p = x := by simpa using hx
    obtain rfl : q = y := by simpa using hy
    rw [Ky.lessF, if_neg hne]
  | j + 1, [], _, _, _, h, _, _, _ => by simp at h
  | j + 1, _ :: _, [], _, _, _, h, _, _ => by simp at h
  | j + 1, p :: a, q :: b, x, y, hx, hy, hi, hne => by
    have h0 := hi 0 (by omega)
    obtain rfl : p = q := by simpa using h0
    rw [Ky.lessF, if_pos rfl]
    exact less_of j a b x y (by simpa using hx) (by simpa using hy) (fun i hj => by have := hi (i + 1) (by omega); simpa using this) hne
theorem common_self : ∀ a : List Int, Ky.commonF a a = 8 * a.length
  | [] => rfl
  | x :: a => by rw [Ky.commonF, if_pos rfl, common_self a, List.length_cons]; omega
theorem common_comm : ∀ a b : List Int, Ky.commonF a b = Ky.commonF b a
  | [], [] => rfl
  | [], _ :: _ => rfl
  | _ :: _, [] => rfl
  | x :: a, y :: b => by
    rw [Ky.commonF, Ky.commonF, common_comm a b, Nat.xor_comm]
    by_cases h : x = y
    · rw [if_pos h, if_pos h.symm]
    · rw [if_neg h, if_neg (fun e => h e.symm)]
theorem common_at : ∀ a b : List Int, a.length = b.length → a ≠ b → ∃ (i : Nat) (x y : Int), a[i]? = some x ∧ b[i]? = some y ∧ x ≠ y ∧ (∀ k, k < i → a[k]? = b[k]?) ∧ Ky.commonF a b = 8 * i + (8 - Go.Lib.bitLen (x.toNat ^^^ y.toNat))
  | [], [], _, h => absurd rfl h
  | [], _ :: _, h, _ => by simp at h
  | _ :: _, [], h, _ => by simp at h
  | x :: a, y :: b, hl, hne => by
    by_cases h : x = y
    · subst h
      obtain ⟨i, p, q, h1, h2, h3, h4, h5⟩ := common_at a b (by simpa using hl) (fun e => hne (by rw [e]))
      refine ⟨i + 1, p, q, by simpa using h1, by simpa using h2, h3, fun k hk => ?_, ?_⟩
      · cases k with
        | zero => rfl
        | succ k => have := h4 k (by omega); simpa using this
      · rw [Ky.commonF, if_pos rfl, h5]; omega
    · exact ⟨0, x, y, rfl, rfl, h, fun k hk => by omega, by rw [Ky.commonF, if_neg h]; omega⟩
theorem len_tab : ∀ z : Fin 256, z.val ≠ 0 → 1 ≤ Go.Lib.bitLen z.val ∧ Go.Lib.bitLen z.val ≤ 8 ∧ z.val / 2 ^ (Go.Lib.bitLen z.val - 1) = 1 := by decide +kernel
theorem and_bit (x c : Nat) (hx : x < 256) (hc : c < 8) : Go.bits .and .u8 (x : Int) ((2 ^ c : Nat) : Int) = ((x &&& 2 ^ c : Nat) : Int) := by
  have hp : 2 ^ c < 2 ^ 8 := Nat.pow_lt_pow_right (by decide) hc
  have hw : ∀ n : Int, 0 ≤ n → n < 2 ^ 8 → IntKind.u8.wrap n = n := fun n a b => by simp only [IntKind.wrap, IntKind.bits, IntKind.signed]; simp; omega
  exact (Go.bits_nat .u8 8 (by decide) hw x (2 ^ c) hx hp).1
theorem and_zero (x c : Nat) : x &&& 2 ^ c = 0 ↔ x.testBit c = false := by
  constructor
  · intro h
    have := congrArg (fun n => n.testBit c) h
    simpa using this
  · intro h
    apply Nat.eq_of_testBit_eq
    intro j
    rw [Nat.testBit_and, Nat.testBit_two_pow, Nat.zero_testBit]
    by_cases e : c = j
    · subst e; rw [h]; rfl
    · rw [decide_eq_false e, Bool.and_false]
theorem lt_bit {p q c : Nat} (h1 : p.testBit c = false) (h2 : q.testBit c = true) (h : ∀ j, c < j → p.testBit j = q.testBit j) : p < q := by
  have e : p / 2 ^ (c + 1) = q / 2 ^ (c + 1) := by
    apply Nat.eq_of_testBit_eq
    intro j
    rw [Nat.testBit_div_two_pow, Nat.testBit_div_two_pow]
    exact h _ (by omega)
  rw [Nat.testBit_eq_decide_div_mod_eq] at h1 h2
  have h1 := of_decide_eq_false h1
  have h2 := of_decide_eq_true h2
  have hd : ∀ n : Nat, n / 2 ^ c / 2 = n / 2 ^ (c + 1) := fun n => by rw [Nat.pow_succ, Nat.div_div_eq_div_mul]
  have e1 := hd p
  have e2 := hd q
  have hlt : p / 2 ^ c < q / 2 ^ c := by omega
  exact Nat.lt_of_not_le fun hle => Nat.not_le_of_lt hlt (Nat.div_le_div_right hle)
/-- The first bit in which two bytes differ. -/
theorem bit_first {x y : Int} (hx : 0 ≤ x ∧ x ≤ 255) (hy : 0 ≤ y ∧ y ≤ 255) (hne : x ≠ y) : ∃ c : Nat, c < 8 ∧ Go.Lib.bitLen (x.toNat ^^^ y.toNat) = c + 1 ∧ Go.bits .and .u8 x ((2 ^ c : Nat) : Int) ≠ Go.bits .and .u8 y ((2 ^ c : Nat) : Int) ∧ (x < y ↔ Go.bits .and .u8 x ((2 ^ c : Nat) : Int) = 0) := by
  obtain ⟨p, rfl⟩ := Int.eq_ofNat_of_zero_le hx.1
  obtain ⟨q, rfl⟩ := Int.eq_ofNat_of_zero_le hy.1
  simp only [Int.toNat_natCast]
  have hp : p < 256 := by omega
  have hq : q < 256 := by omega
  have hz : p ^^^ q < 256 := Nat.xor_lt_two_pow (n := 8) hp hq
  have hz0 : p ^^^ q ≠ 0 := fun h => hne (by
    have h2 : p = q := by
      apply Nat.eq_of_testBit_eq
      intro j
      have := congrArg (fun n => n.testBit j) h
      simp only [Nat.testBit_xor, Nat.zero_testBit] at this
      cases h4 : p.testBit j <;> cases h5 : q.testBit j <;> simp_all
    rw [h2])
  obtain ⟨h1, h2, h3⟩ := len_tab ⟨p ^^^ q, hz⟩ hz0
  dsimp only at h1 h2 h3
  obtain ⟨c, hc⟩ : ∃ c, Go.Lib.bitLen (p ^^^ q) = c + 1 := ⟨Go.Lib.bitLen (p ^^^ q) - 1, by omega⟩
  rw [hc] at h3 h2
  rw [Nat.add_sub_cancel] at h3
  refine ⟨c, by omega, hc, ?_⟩
  rw [and_bit p c hp (by omega), and_bit q c hq (by omega)]
  have hb : (p ^^^ q).testBit c = true := by rw [Nat.testBit_eq_decide_div_mod_eq, h3]; decide
  have hlt : p ^^^ q < 2 ^ (c + 1) := by
    rw [Nat.pow_succ, Nat.mul_comm]
    have := (Nat.div_lt_iff_lt_mul (x := p ^^^ q) (y := 2) (k := 2 ^ c) (Nat.two_pow_pos c)).1 (by omega)
    exact this
  have hab : ∀ j, c < j → p.testBit j = q.testBit j := fun j hj => by
    have hzj : (p ^^^ q).testBit j = false := Nat.testBit_lt_two_pow (Nat.lt_of_lt_of_le hlt (Nat.pow_le_pow_right (by decide) hj))
    rw [Nat.testBit_xor] at hzj
    cases h4 : p.testBit j <;> cases h5 : q.testBit j <;> simp_all
  rw [Nat.testBit_xor] at hb
  refine ⟨fun e => ?_, ?_⟩
  · have e2 : p &&& 2 ^ c = q &&& 2 ^ c := by exact_mod_cast e
    have := congrArg (fun n => n.testBit c) e2
    simp at this
    rw [this] at hb
    simp at hb
  · rw [show (((p &&& 2 ^ c : Nat) : Int) = 0 ↔ p &&& 2 ^ c = 0) from by omega, and_zero]
    constructor
    · intro h
      cases h4 : p.testBit c
      · rfl
      · have h5 : q.testBit c = false := by cases h5 : q.testBit c <;> simp_all
        have := lt_bit h5 h4 (fun j hj => (hab j hj).symm)
        omega
    · intro h4
      have h5 : q.testBit c = true := by cases h5 : q.testBit c <;> simp_all
      have := lt_bit h4 h5 hab
      omega
theorem next_at : ∀ (k : Nat) (l m : List Int), k ≤ l.length → Ky.nextF k l = some m → ∃ (j : Nat) (x y : Int), j < k ∧ l[j]? = some x ∧ m[j]? = some y ∧ x < y ∧ ∀ i, i < j → l[i]? = m[i]?
  | 0, l, m, _, h => by rw [Ky.nextF] at h; cases h
  | k + 1, l, m, hk, h => by
    rw [Ky.nextF] at h
    by_cases hc : l.getD k 0 < 255
    · rw [if_pos hc] at h
      obtain rfl := Option.some.inj h
      refine ⟨k, l.getD k 0, l.getD k 0 + 1, by omega, ?_, ?_, by omega, fun i hi => ?_⟩
      · rw [List.getD_eq_getElem?_getD, List.getElem?_eq_getElem (show k < l.length by omega)]; rfl
      · rw [List.getElem?_set_self (by omega)]
      · rw [List.getElem?_set_ne (by omega)]
    · rw [if_neg hc] at h
      obtain ⟨j, x, y, h1, h2, h3, h4, h5⟩ := next_at k (l.set k 0) m (by simp; omega) h
      refine ⟨j, x, y, by omega, ?_, h3, h4, fun i hi => ?_⟩
      · rw [← h2, List.getElem?_set_ne (by omega)]
      · rw [← h5 i hi, List.getElem?_set_ne (by omega)]
/-- The next key is greater. -/
theorem next_less {l m : List Int} (hl : Ky.Key l) (h : Ky.nextF 16 l = some m) : Ky.lessF l m = true ∧ Ky.lessF m l = false := by
  obtain ⟨j, x, y, _, h1, h2, h3, h4⟩ := next_at 16 l m (by rw [show l.length = 16 from hl]; exact Nat.le_refl _) h
  rw [less_of j l m x y h1 h2 h4 (by omega), less_of j m l y x h2 h1 (fun i hi => (h4 i hi).symm) (by omega)]
  exact ⟨decide_eq_true h3, decide_eq_false (by omega)⟩
theorem less_self : ∀ a : List Int, Ky.lessF a a = false
  | [] => rfl
  | x :: a => by rw [Ky.lessF, if_pos rfl]; exact less_self a
theorem keys_ne {a b : List Int} (ha : Key a) (hb : Key b) (ua : ∀ x ∈ a, 0 ≤ x ∧ x ≤ 255) (ub : ∀ x ∈ b, 0 ≤ x ∧ x ≤ 255) (hne : a ≠ b) : ∃ (n c : Nat) (x y : Int), n < 16 ∧ c < 8 ∧ a[n]? = some x ∧ b[n]? = some y ∧ (∀ k, k < n → a[k]? = b[k]?) ∧ commonF a b = 8 * n + (7 - c) ∧
    Go.bits .and .u8 x ((2 ^ c : Nat) : Int) ≠ Go.bits .and .u8 y ((2 ^ c : Nat) : Int) ∧ lessF a b = decide (Go.bits .and .u8 x ((2 ^ c : Nat) : Int) = 0) ∧ lessF b a = !lessF a b := by
  obtain ⟨n, x, y, h1, h2, h3, h4, h5⟩ := common_at a b (ha.trans hb.symm) hne
  have hn : n < 16 := by have := (List.getElem?_eq_some_iff.1 h1).1; rw [show a.length = 16 from ha] at this; exact this
  have hx := ua x (List.mem_of_getElem? h1)
  have hy := ub y (List.mem_of_getElem? h2)
  obtain ⟨c, hc, hl, hd, hz⟩ := bit_first hx hy h3
  have l1 := less_of n a b x y h1 h2 h4 h3
  have l2 := less_of n b a y x h2 h1 (fun i hi => (h4 i hi).symm) (fun e => h3 e.symm)
  refine ⟨n, c, x, y, hn, hc, h1, h2, h4, by rw [h5, hl]; omega, hd, by rw [l1]; exact decide_eq_decide.mpr hz, ?_⟩
  rw [l1, l2]
  by_cases hxy : x < y
  · rw [decide_eq_true hxy, decide_eq_false (by omega)]; rfl
  · rw [decide_eq_false hxy, decide_eq_true (by omega)]; rfl
theorem next_good {l m : List Int} (hl : Key l) (ul : ∀ x ∈ l, 0 ≤ x ∧ x ≤ 255) : ∀ k, k ≤ 16 → ∀ l : List Int, Key l → (∀ x ∈ l, 0 ≤ x ∧ x ≤ 255) → nextF k l = some m → Key m ∧ ∀ x ∈ m, 0 ≤ x ∧ x ≤ 255 := by
  have hset : ∀ (l : List Int) (n : Nat) (x : Int), Key l → (∀ x ∈ l, 0 ≤ x ∧ x ≤ 255) → 0 ≤ x ∧ x ≤ 255 → Key (l.set n x) ∧ ∀ y ∈ l.set n x, 0 ≤ y ∧ y ≤ 255 := fun l n x h1 h2 hx => ⟨by rw [Key, List.length_set]; exact h1, fun y hy => by
    rcases List.mem_or_eq_of_mem_set hy with h3 | h3
    · exact h2 y h3
    · rw [h3]; exact hx⟩
  intro k
  induction k with
  | zero => intro _ l _ _ h; rw [nextF] at h; cases h
  | succ k ih =>
    intro hk l h1 h2 h
    rw [nextF] at h
    have hx := h2 (l.getD k 0) (by
      rw [List.getD_eq_getElem?_getD, List.getElem?_eq_getElem (show k < l.length by rw [show l.length = 16 from h1]; omega)]
      exact List.getElem_mem _)
    split at h
    · obtain rfl := Option.some.inj h
      exact hset l k _ h1 h2 (by omega)
    · have h3 := hset l k 0 h1 h2 (by omega)
      exact ih (by omega) _ h3.1 h3.2 h
theorem yields_neKey {ops : Array Oper} {S : World → Prop} {o : Oper} {act : Act} {a : List Int} (ha : Key a) (hw : Region.wanted o (yielded ops act.tmps) = true) (x y : Operand) (rt : TypeId) (ho : o.op = .binOp .neq 26 x y rt) (hx : act.eval x = .agg (bs a)) (hy : act.eval y = .agg (bs a)) : YieldsIf Try.prog ops S o (.bool false) act := by
  refine Or.inl ⟨hw, fun w _ => ?_⟩
  unfold execOp
  simp only [ho, hx, hy, Sem.run_bind, binOp]
  go_simp
  rw [run_eqKey ha ha w]
  simp
theorem key_row {W : World} {g : Nat} {l : List Int} {t : TypeId} (hl : l.length = 16) (hb : W.heap[g]? = some (.cells (bs l) t (0, 0))) : Kd.C (Kd.int .u8) W (some ⟨g, 0, none⟩) l.length l := by
  refine ⟨rfl, by omega, fun _ => ⟨⟨g, 0, none⟩, rfl, fun j p hj => ⟨[.int .u8 p], rfl, rfl, fun i u hu => ?_⟩⟩⟩
  have hs : (Kd.int .u8).sz = 1 := rfl
  cases i with
  | succ i => simp at hu
  | zero =>
    obtain rfl : Value.int .u8 p = u := by simpa using hu
    rw [hs, Go.Addr.add_mid, Nat.mul_one, Nat.add_zero, Nat.zero_add]
    exact (blk_cell hb j).trans (bs_get hj)
theorem yields_shr {P : Program} {ops : Array Oper} {S : World → Prop} {o : Oper} {act : Act} {c : Nat} (hc : c < 8) (hw : Region.wanted o (yielded ops act.tmps) = true) (t t2 : TypeId) (x y : Operand) (ho : o.op = .binOp .shr t x y t2) (hx : act.eval x = .int .u8 128) (hy : act.eval y = .int .i64 ((7 - c : Nat) : Int)) : YieldsIf P ops S o (.int .u8 ((2 ^ c : Nat) : Int)) act := by
  refine Or.inl ⟨hw, fun w _ => ?_⟩
  have hs : ∀ c : Fin 8, (128 : Int) / 2 ^ (((7 - c.val : Nat) : Int)).toNat = ((2 ^ c.val : Nat) : Int) := by decide
  have h1 := Go.shift_shr .u8 .i64 128 ((7 - c : Nat) : Int) (Int.natCast_nonneg _) (by show ((7 - c : Nat) : Int) ≤ 8; omega)
  rw [hs ⟨c, hc⟩] at h1
  unfold execOp
  simp only [ho, hx, hy, Sem.run_bind, binOp, h1]
  rfl
end Go.Proofs.Ytkifenbcepicjaa.Ky
