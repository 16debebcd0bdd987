/- What is proved here: one cell of an entry in a row of the call's own is written. No condition beyond those that each theorem states. Written by this session. -/
import Derived.Test.YtkifenbcepicjaaKt
namespace Go.Proofs.Ytkifenbcepicjaa.Ky
open Go.RowKit Go.Proofs.YtkifenbcepicjaaW.PrintWords
set_option linter.unusedVariables false
set_option linter.unusedSimpArgs false
theorem set_take {α : Type} (l : List α) (j : Nat) (v : α) (h : j < l.length) : l.take j ++ [v] ++ l.drop (j + [v].length) = l.set j v := by
  rw [List.set_eq_take_append_cons_drop, if_pos h, List.append_assoc]
  rfl
theorem ec_setKey {x : En} (h : Key x.key) (j : Nat) (hj : j < 16) (v : Int) : (ec x).toList.set j (.int .u8 v) = (ec ⟨x.key.set j v, x.a, x.s, x.l, x.c⟩).toList := by
  rw [ec_list, ec_list, List.set_append_left _ _ (by rw [List.length_map, h]; exact hj)]
  congr 1
  exact (List.map_set ..).symm
theorem ec_setWin {x : En} (h : Key x.key) (q : Nat) (v : Value) (ws : List Value) (hw : ([.int .i64 x.a, .int .i64 x.s, .int .i64 x.l, .int .i64 x.c] : List Value).set q v = ws) : (ec x).toList.set (16 + q) v = x.key.map (Value.int .u8) ++ ws := by
  rw [ec_list, List.set_append_right _ _ (by rw [List.length_map, h]; omega), List.length_map, h, Nat.add_sub_cancel_left, hw]
theorem mark1 {W : World} {base e g n cap : Nat} {ok : Nat → Prop} {xs : List En} {i j : Nat} {x x' : En} {v : Value} (hR : Kd.R ke e W base ok (.slice (some ⟨g, 0, none⟩) n cap) xs) (hi : i < n) (hx : xs[i]? = some x) (hj : j < 20) (hc : (ec x).toList.set j v = (ec x').toList) (hk : Key x'.key) :
    (∃ u, W.cell? ⟨g, i * 20 + j, none⟩ = some u) ∧ W.frozen? ⟨g, i * 20 + j, none⟩ = false ∧ Kd.R ke e (W.setCell ⟨g, i * 20 + j, none⟩ v) base ok (.slice (some ⟨g, 0, none⟩) n cap) (xs.set i x') := by
  obtain ⟨c, hcl, hM, hcc, hfr⟩ := Kd.R_elem hR x (i : Int) (by omega) (by omega)
  rw [Int.toNat_natCast] at hM hcc hfr
  rw [List.getD_eq_getElem?_getD, hx, Option.getD_some] at hM
  obtain ⟨kx, hce⟩ := ke_openM hM
  have hlen : (ec x).toList.length = 20 := by rw [Array.length_toList, ec_size kx]
  have h20 : ke.sz = 20 := rfl
  refine ⟨⟨_, hcc j c[j] (List.getElem?_eq_getElem (by rw [hcl]; exact hj))⟩, hfr j, ?_⟩
  have hs := Kd.R_seg hR (i : Int) (by omega) (by omega) (seg := [v]) (j := j) hcl (by rw [Int.toNat_natCast]; exact hcc) (by rw [h20]; exact hj) (x' := x') (okp := fun _ => False) (by
    rw [hce, set_take _ _ _ (by rw [hlen]; exact hj), hc]
    exact ke_mkM hk _ _ _) (fun _ hk => hk.elim)
  rw [Int.toNat_natCast] at hs
  exact hs.1
theorem R_key {W : World} {base e g n cap : Nat} {ok : Nat → Prop} {xs : List En} {i : Nat} {x : En} (hR : Kd.R ke e W base ok (.slice (some ⟨g, 0, none⟩) n cap) xs) (hi : i < n) (hx : xs[i]? = some x) : Key x.key := by
  obtain ⟨c, _, hM, _, _⟩ := Kd.R_elem hR x (i : Int) (by omega) (by omega)
  rw [Int.toNat_natCast, List.getD_eq_getElem?_getD, hx, Option.getD_some] at hM
  exact (ke_openM hM).1
theorem mid_get {M T : List En} {y : En} {i : Nat} (h : M.length = i) : (M ++ y :: T)[i]? = some y := by
  rw [List.getElem?_append_right (by omega), h, Nat.sub_self]
  rfl
theorem mid_set {M T : List En} {y y' : En} {i : Nat} (h : M.length = i) : (M ++ y :: T).set i y' = M ++ y' :: T := by
  rw [List.set_append_right _ _ (by omega), h, Nat.sub_self, List.set_cons_zero]
theorem key_step {l : List Int} {f : Nat → Int} {j : Nat} (h : l.length = 16 ∧ ∀ t : Nat, t < j → l[t]? = some (f t)) (hj : j < 16) : (l.set j (f j)).length = 16 ∧ ∀ t : Nat, t < j + 1 → (l.set j (f j))[t]? = some (f t) := by
  refine ⟨by rw [List.length_set]; exact h.1, fun t ht => ?_⟩
  by_cases e : t = j
  · subst e
    exact List.getElem?_set_self (by rw [h.1]; exact hj)
  · rw [List.getElem?_set_ne (Ne.symm e)]
    exact h.2 t (by omega)
end Go.Proofs.Ytkifenbcepicjaa.Ky
