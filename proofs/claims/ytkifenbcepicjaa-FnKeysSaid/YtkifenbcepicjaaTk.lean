/- What is proved here: small plain facts on numbers, lists and rounds, for the plain statements of the laws. No condition. Written by this session. -/
import Derived.Test.YtkifenbcepicjaaWWords
import Derived.Test.YtkifenbcepicjaaWMore
namespace Go.Proofs.Ytkifenbcepicjaa.Tk
open Go.RowKit Go.Proofs.YtkifenbcepicjaaW.PrintWords

theorem wid {n : Int} (h0 : -9223372036854775808 ≤ n) (h1 : n ≤ 9223372036854775807) : wrap64 n = n := by unfold wrap64; omega
theorem wsucc {i : Nat} (h : (i : Int) < 9223372036854775807) : wrap64 ((i : Int) + 1) = ((i + 1 : Nat) : Int) := by rw [wid (by omega) (by omega)]; omega
theorem rdn (l : List Int) (i : Nat) : rd l (i : Int) = l.getD i 0 := rfl
theorem rd_lt (l : List Int) {i : Nat} (h : i < l.length) : rd l (i : Int) = l[i] := by
  rw [rdn, List.getD_eq_getElem?_getD, List.getElem?_eq_getElem h]; rfl
theorem getD_lt {α : Type} (l : List α) (d : α) {i : Nat} (h : i < l.length) : l.getD i d = l[i] := by
  rw [List.getD_eq_getElem?_getD, List.getElem?_eq_getElem h]; rfl
theorem ev_now {α : Type} {g : Nat → Option α} {r : α} (h : ∀ k, g k = some r) : Ev g r := ⟨0, fun k _ => h k⟩
theorem ev_end {α : Type} {g : Nat → Option α} {r : α} (h : ∀ k, g (k + 1) = some r) : Ev g r := Ev.step h (Ev.now r)
theorem ev_succ {α : Type} {g : Nat → Option α} {r : α} (h : Ev (fun k => g (k + 1)) r) : Ev g r := Ev.step (fun _ => rfl) h
theorem ev_eq {α : Type} {g : Nat → Option α} {r r' : α} (e : Ev g r) (h : r = r') : Ev g r' := h ▸ e
theorem ev_fun {α : Type} {g f : Nat → Option α} {r : α} (h : g = f) (e : Ev f r) : Ev g r := h ▸ e
theorem ev_bind {α β : Type} {g : Nat → Option α} {f : Nat → α → Option β} {a : α} {r : β} (h : Ev g a) (k : Ev (fun n => f n a) r) : Ev (fun n => (g n).bind (f n)) r := Ev.bind h k
theorem ev_if {α : Type} {c : Prop} [Decidable c] {g f : Nat → Option α} {r : α} (h : c → Ev g r) (k : ¬ c → Ev f r) : Ev (fun n => if c then g n else f n) r := by
  by_cases hc : c
  · simp only [if_pos hc]; exact h hc
  · simp only [if_neg hc]; exact k hc
theorem ev_pos {α : Type} {c : Prop} [Decidable c] {g f : Nat → Option α} {r : α} (hc : c) (h : Ev g r) : Ev (fun n => if c then g n else f n) r := by
  simp only [if_pos hc]; exact h
theorem ev_neg {α : Type} {c : Prop} [Decidable c] {g f : Nat → Option α} {r : α} (hc : ¬ c) (h : Ev f r) : Ev (fun n => if c then g n else f n) r := by
  simp only [if_neg hc]; exact h
theorem ev_some {α β : Type} {a : α} {f : Nat → α → Option β} {r : β} (k : Ev (fun n => f n a) r) : Ev (fun n => (some a).bind (f n)) r := k
theorem ev_uniq {α : Type} {g : Nat → Option α} {r r' : α} (h : Ev g r) (h' : Ev g r') : r = r' := by
  obtain ⟨K, h⟩ := h
  obtain ⟨K', h'⟩ := h'
  have a := h (max K K') (by omega)
  have b := h' (max K K') (by omega)
  rw [a] at b
  exact Option.some.inj b
/-- The marks k, k + 1, .., as bytes. -/
def marks (k : Int) : Nat → List Int
  | 0 => []
  | n + 1 => (k % 256) :: marks (k + 1) n
theorem marks_length (k : Int) (n : Nat) : (marks k n).length = n := by
  induction n generalizing k with
  | zero => rfl
  | succ n ih => simp [marks, ih]
theorem marks_get (n : Nat) : ∀ (k : Int) (i : Nat) (h : i < (marks k n).length), (marks k n)[i] = (k + i) % 256 := by
  induction n with
  | zero => intro k i h; simp [marks] at h
  | succ n ih =>
    intro k i h
    cases i with
    | zero => simp [marks]
    | succ i =>
      have := ih (k + 1) i (by simp [marks_length] at h ⊢; omega)
      simp only [marks, List.getElem_cons_succ, this]
      congr 1
      omega
/-- A list written over from the left: the first i elements are those of l. -/
def over {α : Type} (l x : List α) (i : Nat) : List α := l.take i ++ x.drop i
theorem over_zero {α : Type} (l x : List α) : over l x 0 = x := by simp [over]
theorem over_all {α : Type} (l x : List α) (h : x.length = l.length) : over l x l.length = l := by
  unfold over
  rw [List.take_length, ← h, List.drop_length, List.append_nil]
theorem over_length {α : Type} (l x : List α) (i : Nat) (h : x.length = l.length) (hi : i ≤ l.length) : (over l x i).length = l.length := by
  simp [over]; omega
theorem over_get {α : Type} (l x : List α) (i j : Nat) (hi : i ≤ l.length) (hj : i ≤ j) (h : x.length = l.length) : (over l x i)[j]? = x[j]? := by
  unfold over
  rw [List.getElem?_append_right (by simp; omega), List.getElem?_drop]
  congr 1
  simp
  omega
theorem over_set {α : Type} (l x : List α) (i : Nat) (h : x.length = l.length) (hi : i < l.length) : (over l x i).set i l[i] = over l x (i + 1) := by
  apply List.ext_getElem?
  intro j
  unfold over
  by_cases hj : j < i
  · rw [List.getElem?_set_ne (by omega), List.getElem?_append_left (by simp; omega), List.getElem?_append_left (by simp; omega), List.getElem?_take, List.getElem?_take, if_pos hj, if_pos (by omega)]
  · by_cases hj2 : j = i
    · subst hj2
      rw [List.getElem?_set_self (by simp; omega), List.getElem?_append_left (by simp; omega), List.getElem?_take, if_pos (by omega), List.getElem?_eq_getElem hi]
    · rw [List.getElem?_set_ne (by omega), List.getElem?_append_right (by simp; omega), List.getElem?_append_right (by simp; omega), List.getElem?_drop, List.getElem?_drop]
      congr 1
      simp
      omega
end Go.Proofs.Ytkifenbcepicjaa.Tk
