/- What is proved here: plain facts on keys beside the words: a row of bytes that is read as an array. No condition beyond those that each theorem states. Written by this session. -/
import Derived.Test.YtkifenbcepicjaaKw
import Derived.Test.YtkifenbcepicjaaFl
import Derived.Test.YtkifenbcepicjaaWWords
import Derived.Test.YtkifenbcepicjaaWArr
namespace Go.Proofs.Ytkifenbcepicjaa.Ky
open Go.RowKit Go.Proofs.YtkifenbcepicjaaW.PrintWords
set_option linter.unusedVariables false
set_option linter.unusedSimpArgs false
theorem row_at {w : World} {A : Option Addr} {n : Nat} {ys : List Int} (h : (Kd.int .u8).C w A n ys) (hp : 0 < n) : ∃ b o, A = some ⟨b, o, none⟩ ∧ ∀ j x, ys[j]? = some x → w.cell? ⟨b, o + j, none⟩ = some (.int .u8 x) := by
  obtain ⟨h1, _, h2⟩ := h
  obtain ⟨ad, rfl, h3⟩ := h2 hp
  have hcell : ∀ j x, ys[j]? = some x → w.cell? (ad.add j) = some (.int .u8 x) := fun j x hj => by
    obtain ⟨cs, _, hk, hc⟩ := h3 j x hj
    obtain rfl : cs = [.int .u8 x] := hk
    have := hc 0 (.int .u8 x) rfl
    rw [show j * (Kd.int .u8).sz + 0 = j from by show j * 1 + 0 = j; omega] at this
    exact this
  obtain ⟨b, o, s⟩ := ad
  obtain ⟨x, hx⟩ : ∃ x, ys[0]? = some x := ⟨_, List.getElem?_eq_getElem (by omega)⟩
  have h0 := hcell 0 x hx
  have hs : s = none := by
    cases s with
    | none => rfl
    | some s =>
      exfalso
      have e : (⟨b, o, some s⟩ : Addr).add 0 = ⟨b, o, some s⟩ := rfl
      rw [e] at h0
      unfold World.cell? at h0
      dsimp only at h0
      split at h0
      · simp at h0
      · simp at h0
  subst hs
  exact ⟨b, o, rfl, fun j x hj => by have := hcell j x hj; rwa [Go.Addr.add_mid] at this⟩
theorem range_key {w w1 : World} {b o n : Nat} {ys : List Int} (hb : Below w.heap.size w w1) (h : ∀ j x, ys[j]? = some x → w.cell? ⟨b, o + j, none⟩ = some (.int .u8 x)) : w1.rangeAt b (o + n) (((ys.drop n).take 16).map (Value.int .u8)) := by
  intro j v hj
  rw [List.getElem?_map, List.getElem?_take] at hj
  split at hj
  · rw [List.getElem?_drop] at hj
    obtain ⟨x, hx, rfl⟩ := Option.map_eq_some_iff.1 hj
    rw [show o + n + j = o + (n + j) from by omega]
    exact pw_cell_below hb (h _ x hx)
  · simp at hj
theorem range_len {ys : List Int} {n : Nat} (h : n + 16 ≤ ys.length) : Key ((ys.drop n).take 16) := by simp [Key]; omega
theorem run_arrayAt (A : Option Addr) (c : Nat) (w : World) : (Instr.arrayAt 26 (.slice A 16 c)).run Try.prog w = .ok (.pointer A) w := by
  simp only [Instr.arrayAt, Sem.run_bind, run_underlying hK w, Result.andThen_ok]
  rw [if_neg (by omega)]
  rfl
theorem run_loadKey {w : World} {b o : Nat} {l : List Int} (hl : Key l) (hc : w.rangeAt b o (l.map (Value.int .u8))) : (Instr.loadAt 26 (.pointer (some ⟨b, o, none⟩))).run Try.prog w = .ok (.agg (bs l)) w :=
  run_loadAt_mid w b o 26 (l.map (Value.int .u8)) _ hc hK rfl (by rw [List.length_map, hl]; exact hKi)
theorem run_storeKey {w : World} {b o : Nat} {l : List Int} (hl : Key l) (ht : w.there b o 16) : (Instr.storeAt 26 (.pointer (some ⟨b, o, none⟩)) (.agg (bs l))).run Try.prog w = .ok () (w.setCells b o (bs l).toList) :=
  run_storeAt_mid w b o 26 (bs l) (by rw [bs_size, hl]; exact ht) (hKk hl) (bs_one l)
end Go.Proofs.Ytkifenbcepicjaa.Ky
