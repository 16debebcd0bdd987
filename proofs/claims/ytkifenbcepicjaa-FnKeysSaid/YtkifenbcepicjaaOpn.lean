/- What is proved here: whatever an argument reads as data is a list, a number, a bool or a record of these, with its numbers in range. No condition. Written by this session. -/
import Derived.Test.YtkifenbcepicjaaWWords
import Derived.Test.YtkifenbcepicjaaWArr
import Derived.OpenShut
import Derived.ChangeArms
import Derived.Deep.Slices
namespace Go.Proofs.Ytkifenbcepicjaa.Opn
open Go.RowKit Go.Proofs.YtkifenbcepicjaaW.PrintWords

/-- A number of 64 bits. -/
def I64 (n : Int) : Prop := -9223372036854775808 ≤ n ∧ n ≤ 9223372036854775807
/-- A byte. -/
def U8 (n : Int) : Prop := 0 ≤ n ∧ n ≤ 255
/-- A list that lies in a slice, each element as told. -/
def Row {α : Type} (S : α → Prop) (l : List α) : Prop := l.length ≤ 9223372036854775807 ∧ ∀ x ∈ l, S x
def Any {α : Type} (_ : α) : Prop := True

/-- Whatever reads as data of type t is of the kind d, and S holds of it. -/
def Opens {α : Type} (P : Program) (t : TypeId) (d : Kd α) (S : α → Prop) : Prop :=
  ∀ {H : Type} (enc : TypeId × Value → H) (w : World) (base : Nat) (held : Bool) (fuel : Nat) (cs : List Value) (x : DataW H × List MemPlace),
    DataW.trod enc P w base (fun _ => true) held fuel t cs = some x → ∃ a, d.K w a cs ∧ S a

theorem Opens.i64 {P : Program} {t : TypeId} (h : P.underlying t = some (.int .i64)) : Opens P t (Kd.int .i64) I64 := by
  intro H enc w base held fuel cs x hx
  obtain ⟨n, rfl, _, hw⟩ := DataW.trod_int h hx
  exact ⟨n, rfl, bounds_i64 hw⟩
theorem Opens.u8 {P : Program} {t : TypeId} (h : P.underlying t = some (.int .u8)) : Opens P t (Kd.int .u8) U8 := by
  intro H enc w base held fuel cs x hx
  obtain ⟨n, rfl, _, hw⟩ := DataW.trod_int h hx
  exact ⟨n, rfl, bounds_u8 hw⟩
theorem Opens.bool {P : Program} {t : TypeId} (h : P.underlying t = some .bool) : Opens P t Kd.bool Any := by
  intro H enc w base held fuel cs x hx
  obtain ⟨b, rfl, _⟩ := DataW.trod_bool h hx
  exact ⟨b, rfl, trivial⟩
theorem Opens.slice {P : Program} {t e : TypeId} {α : Type} [Inhabited α] {d : Kd α} {S : α → Prop} (h : P.underlying t = some (.slice e)) (hc : P.cellsOf e = d.sz) (ho : Opens P e d S) :
    Opens P t (Kd.slice e d) (Row S) := by
  intro H enc w base held fuel cs x hx
  rcases Go.Deep.open_slice h hx with ⟨rfl, _⟩ | ⟨a, len, cap, m, n, D, Pl, rfl, hb, hl, hm, hmm, _, hel⟩
  · exact ⟨[], ⟨none, 0, rfl, Nat.le_refl _, Kd.C_nil d w⟩, by simp, by simp⟩
  · have hle : len ≤ m := by rw [hmm]; split <;> omega
    have hm2 : len ≤ 9223372036854775807 := by unfold maxLen at hm; omega
    obtain ⟨f, hf⟩ := Go.Deep.choose_lt (α := α) (p := fun i y => ∃ cs', w.cells? base (a.add (i * P.cellsOf e)) (P.cellsOf e) = some cs' ∧ d.K w y cs' ∧ S y) (n := len) (fun i hi => by
      obtain ⟨cs', h1, h2⟩ := hel i (by omega)
      obtain ⟨y, hy, hS⟩ := ho enc w base held n cs' _ h2
      exact ⟨y, cs', h1, hy, hS⟩)
    refine ⟨(List.range len).map f, ⟨some a, cap, by simp, by simpa using hl, ⟨by simp, by simpa using hm2, fun _ => ⟨a, rfl, fun j p hj => ?_⟩⟩⟩, by simpa using hm2, fun y hy => ?_⟩
    · have hjl : j < len := by
        have := (List.getElem?_eq_some_iff.1 hj).1
        simpa using this
      obtain ⟨cs', h1, h2, h3⟩ := hf j hjl
      have hp : p = f j := by simpa [hjl] using hj.symm
      subst hp
      obtain ⟨_, hlen, hcell⟩ := World.cells?_some h1
      refine ⟨cs', by rw [hlen, hc], h2, fun i u hu => ?_⟩
      have hi : i < P.cellsOf e := by
        have := (List.getElem?_eq_some_iff.1 hu).1
        omega
      have := hcell i hi
      rw [Go.Deep.add_add, hu, hc] at this
      exact this
    · obtain ⟨j, hj, rfl⟩ := List.mem_map.1 hy
      obtain ⟨_, _, _, h3⟩ := hf j (List.mem_range.1 hj)
      exact h3
/-- A part of a struct's (or an array's) cells. -/
theorem part {cs : List Value} (o c : Nat) : cs.drop o = (cs.drop o).take c ++ cs.drop (o + c) := by
  rw [← List.drop_drop, List.take_append_drop]
theorem last {cs : List Value} (o c : Nat) (h : cs.length = o + c) : cs.drop o = (cs.drop o).take c := by
  rw [List.take_of_length_le]
  rw [List.length_drop]
  omega
theorem field_of {P : Program} {t : TypeId} {α : Type} {d : Kd α} {S : α → Prop} (ho : Opens P t d S) {H : Type} {enc : TypeId × Value → H} {w : World} {base : Nat} {held : Bool} {n : Nat} {cs : List Value} {xs : List (DataW H × List MemPlace)} {i : Nat}
    (h : DataW.trod enc P w base (fun _ => true) held n t cs = xs[i]?) (hi : i < xs.length) : ∃ a, d.K w a cs ∧ S a := by
  rw [List.getElem?_eq_getElem hi] at h
  exact ho enc w base held n cs _ h
/-- An argument, at its top: a slice. -/
theorem top_slice {P : Program} {t e : TypeId} {α : Type} {d : Kd α} {S : List α → Prop} (ho : Opens P t (Kd.slice e d) S) {H : Type} {enc : TypeId × Value → H} {w : World} {base : Nat} {held : Bool} {a : Option Addr} {len cap : Nat} {x : DataW H} {p : List MemPlace}
    (h : DataW.Trod enc P w base (fun _ => true) held t (.slice a len cap) x p) : ∃ l : List α, len = l.length ∧ l.length ≤ cap ∧ Kd.C d w a l.length l ∧ S l := by
  obtain ⟨fuel, hf⟩ := h
  obtain ⟨l, ⟨A, c, hcs, hl, hC⟩, hS⟩ := ho enc w base held fuel _ _ hf
  simp [Value.cells] at hcs
  obtain ⟨rfl, rfl, rfl⟩ := hcs
  exact ⟨l, rfl, hl, hC, hS⟩
/-- An argument, at its top: a record. -/
theorem top_agg {P : Program} {t : TypeId} {α : Type} {d : Kd α} {S : α → Prop} (ho : Opens P t d S) {H : Type} {enc : TypeId × Value → H} {w : World} {base : Nat} {held : Bool} {cs : Array Value} {x : DataW H} {p : List MemPlace}
    (h : DataW.Trod enc P w base (fun _ => true) held t (.agg cs) x p) : ∃ l : α, d.K w l cs.toList ∧ S l := by
  obtain ⟨fuel, hf⟩ := h
  exact ho enc w base held fuel _ _ hf
/-- Does p answer yes at one of a list, asked in order? -/
def anyO {α : Type} (p : α → Option Bool) : List α → Option Bool
  | [] => some false
  | x :: xs => (p x).bind fun b => if b = true then some true else anyO p xs
/-- What IndexFunc comes to: an index that is at least 0 if and only if r; all that lay there lies as it did. -/
def IdxPost (r : Bool) (w : World) (e : Ending) (w' : World) : Prop := ∃ j : Int, e = .returned (.int .i64 j) ∧ decide (0 ≤ j) = r ∧ Below w.heap.size w w'
/-- A function value of a plain function is entered. -/
theorem entered {P : Program} {f : FuncId} {fn : Func} {c : Code} (hf : P.funcs[f]? = some fn) (hname : (fn.name == "runtime.NumGoroutine") = false) (hb : fn.body = some c) : ∀ args w, (callFunc f args).run P w = .ok (.enter f args) w := by
  intro args w
  have h1 : fn.name ≠ "runtime.NumGoroutine" := by simpa using hname
  simp [callFunc, hf, h1, hb]
end Go.Proofs.Ytkifenbcepicjaa.Opn
