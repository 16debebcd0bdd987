/- What is proved here: what an argument that is a key reads as: sixteen bytes. No condition. Written by this session. -/
import Derived.Test.YtkifenbcepicjaaKy
import Derived.OpenShut
import Derived.ChangeArms
import Derived.WideShapes
namespace Go.Proofs.Ytkifenbcepicjaa.Ky
open Go.RowKit Go.ChangeShapes Go.WideShapes
set_option linter.unusedVariables false
set_option linter.unusedSimpArgs false
theorem bounds8 {n : Int} (h : (Lit.int .u8 n).wf = true) : 0 ≤ n ∧ n ≤ 255 := by
  have := h
  simp only [Lit.wf, IntKind.min, IntKind.max, IntKind.signed, IntKind.bits] at this
  simp at this
  exact this
theorem okWide_array {P : Program} {w : World} {r : Reach} {b0 t n e : Nat} {v : Value} (ht : P.underlying t = some (.array n e)) (h : Value.okWide P w r b0 t v) : ∃ cs, v = .agg cs ∧ cs.size = P.cellsOf t := by
  simp only [Value.okWide, ht] at h
  obtain ⟨cs, h1, h2, _⟩ := h
  exact ⟨cs, h1, h2⟩
theorem bytes_of {P : Program} {e : TypeId} (he : P.underlying e = some (.int .u8)) (hc : P.cellsOf e = 1) {H : Type} {enc : TypeId × Value → H} {w : World} {base : Nat} {held : Bool} {m : Nat} : ∀ (cs : List Value) (xs : List (DataW H × List MemPlace)),
    cs.length = xs.length → (∀ i, i < xs.length → DataW.trod enc P w base (fun _ => true) held m e ((cs.drop i).take 1) = xs[i]?) → ∃ l : List Int, l.length = cs.length ∧ cs = l.map (Value.int .u8) ∧ ∀ x ∈ l, 0 ≤ x ∧ x ≤ 255
  | [], _, _, _ => ⟨[], rfl, rfl, fun x hx => by cases hx⟩
  | c :: cs, [], h, _ => by simp at h
  | c :: cs, x :: xs, h, hx => by
    obtain ⟨l, h1, h2, h3⟩ := bytes_of he hc cs xs (by simpa using h) (fun i hi => hx (i + 1) (by simpa using hi))
    have h0 := hx 0 (by simp)
    obtain ⟨n, hn, _, hw⟩ := DataW.trod_int he h0
    have hc : c = .int .u8 n := by injection hn
    subst hc
    subst h2
    refine ⟨n :: l, by simp, by simp, fun y hy => ?_⟩
    rcases List.mem_cons.1 hy with rfl | hy
    · exact bounds8 hw
    · exact h3 y hy
theorem open_key {H : Type} {enc : TypeId × Value → H} {w : World} {base : Nat} {held : Bool} {cs : Array Value} {d : DataW H} {p : List MemPlace} (h : DataW.Trod enc Try.prog w base (fun _ => true) held 26 (.agg cs) d p) :
    ∃ l : List Int, l.length = 16 ∧ cs = bs l ∧ ∀ x ∈ l, 0 ≤ x ∧ x ≤ 255 := by
  obtain ⟨fuel, hf⟩ := h
  obtain ⟨xs, m, _, _, hl, hn, hx⟩ := DataW.trod_array Try.underlying26 hf
  have hc : Try.prog.cellsOf 5 = 1 := by kernel_rfl
  have h16 : Try.prog.cellsOf 26 = 16 := by kernel_rfl
  rw [h16] at hl
  obtain ⟨l, h1, h2, h3⟩ := bytes_of (P := Try.prog) Try.underlying5 hc (Value.agg cs).cells.toList xs (by rw [hl, hn]) (fun i hi => by
    have := hx i (by omega)
    rw [hc, Nat.mul_one] at this
    exact this)
  refine ⟨l, by rw [h1, hl], ?_, h3⟩
  apply Array.toList_inj.1
  exact h2
end Go.Proofs.Ytkifenbcepicjaa.Ky
