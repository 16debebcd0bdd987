/- What is proved here: each Go function that is named below answers, and leaves memory, as the theorem of its name says; no condition beyond those that each theorem states. Laid by this session's own program (wip/driver.py) over the kit's print. -/
import Derived.Test.YtkifenbcepicjaaPFnExactDropEntryx0
import Derived.Test.YtkifenbcepicjaaPFnExactDropEntryx2
namespace Go.Proofs.Ytkifenbcepicjaa.PFnExactDropEntry
open Go.RowKit Go.Proofs.YtkifenbcepicjaaW.PrintWords Go.Proofs.YtkifenbcepicjaaW.PrintLast Go.Proofs.YtkifenbcepicjaaW.PrintMore
attribute [local go_sem] max2_int min2_int max_two min_two max_three min_three max_four min_four   -- for this text's walks alone
set_option linter.unusedVariables false
set_option linter.unusedSimpArgs false

/-! ### spec_l9Table: function 37 (by hand) -/
def spec_l9Table.fin (k : Nat) (m : List (List Int)) (n : Nat) : Option Bool := (spec_l2Memory.f k m).bind fun b => some (b && decide ((n : Int) ≤ 12))
def spec_l9Table.go (k : Nat) (m : List (List Int)) (n : Nat) : Option Ky.En → Nat → List Ky.En → Option Bool
  | _, _, [] => spec_l9Table.fin k m n
  | p, i, x :: xs => if i ≤ 12 then (spec_l2Window.f k m x.a x.s x.l x.c).bind fun b => if b = true then (if Ky.lessP p x = true then spec_l9Table.go k m n (some x) (i + 1) xs else some false) else some false else spec_l9Table.fin k m n
def spec_l9Table.f (k : Nat) (m : List (List Int)) (t : List Ky.En) : Option Bool := if t.length ≤ 1048576 then spec_l9Table.go k m t.length none 0 t else none
theorem spec_l9Table.mono_fin (k : Nat) (m : List (List Int)) (n : Nat) : LeO (spec_l9Table.fin k m n) (spec_l9Table.fin (k + 1) m n) := by
  unfold spec_l9Table.fin
  exact LeO.bind (by apply spec_l2Memory.mono) (fun _ => LeO.refl _)
theorem spec_l9Table.mono_go (k : Nat) (m : List (List Int)) (n : Nat) : ∀ (xs : List Ky.En) (p : Option Ky.En) (i : Nat), LeO (spec_l9Table.go k m n p i xs) (spec_l9Table.go (k + 1) m n p i xs)
  | [], p, i => by
    unfold spec_l9Table.go
    exact spec_l9Table.mono_fin k m n
  | x :: xs, p, i => by
    unfold spec_l9Table.go
    exact LeO.ite (LeO.bind (by apply spec_l2Window.mono) (fun _ => LeO.ite (LeO.ite (spec_l9Table.mono_go k m n xs _ _) (LeO.refl _)) (LeO.refl _))) (spec_l9Table.mono_fin k m n)
theorem spec_l9Table.mono : ∀ a0 a1 k, LeO (spec_l9Table.f k a0 a1) (spec_l9Table.f (k + 1) a0 a1) := by
  intro a0 a1 k
  unfold spec_l9Table.f
  exact LeO.ite (spec_l9Table.mono_go k _ _ _ _ _) (LeO.refl _)
set_option maxHeartbeats 4000000 in
set_option maxRecDepth 100000 in
theorem spec_l9Table.calls (k : Nat) (A0_0 : Option Addr) (c0_0 : Nat) (l0_0 : List (List Int)) (A1 : Option Addr) (c1 : Nat) (l1 : List Ky.En) (r : Bool) (w : World) (hr0_0 : Kd.C (Kd.slice 5 (Kd.int .u8)) w A0_0 l0_0.length l0_0) (hc0_0 : l0_0.length ≤ c0_0) (hr1 : Kd.C Ky.ke w A1 l1.length l1) (hc1 : l1.length ≤ c1) (h : spec_l9Table.f k l0_0 l1 = some r) :
    Calls Try.prog 37 #[.agg #[.slice A0_0 l0_0.length c0_0], .slice A1 l1.length c1] w fun e w' => e = .returned (.bool r) ∧ Below w.heap.size w w' := by
  have HR0 := Lib.hid hr0_0
  have HC0 := Lib.hid hc0_0
  have HR1 := Lib.hid hr1
  clear hr0_0 hc0_0 hr1 hc1
  unfold spec_l9Table.f at h
  obtain ⟨n, hn⟩ : ∃ n, n = l1.length := ⟨_, rfl⟩
  rw [← hn] at h ⊢
  obtain ⟨hle, h⟩ := Ky.of_condO h
  have HN := Lib.hid hn
  have HM := Lib.hid hle
  have HH := Lib.hid h
  clear hn h hle
  obtain ⟨W0, hW⟩ : ∃ W, W = w.alloc (.cells #[.slice A0_0 l0_0.length c0_0] 32) := ⟨_, rfl⟩
  have HI : Hid (Lv.Inv w W0 [Lv.boxF (w.heap.size) #[.slice A0_0 l0_0.length c0_0] 32]) := by
    subst hW
    have := (Lv.Inv.refl w).box #[.slice A0_0 l0_0.length c0_0] 32
    exact Lib.hid (by simpa using this)
  go_enter Try.func37, Try.ntmps37
  go_upto_region 1 with (fail)
  rw [← hW]
  clear hW
  go_wp2
  go_loopg [5] 13 (fun gg s5 wr => ∃ (i : Nat), s5 = .int .i64 i ∧ Hid (i ≤ n ∧ i ≤ 13 ∧ 13 - i ≤ gg) ∧ Hid (spec_l9Table.go k l0_0 n (Ky.prev l1 i) i (l1.drop i) = some r) ∧ Hid (Lv.Inv w wr [Lv.boxF (w.heap.size) #[.slice A0_0 l0_0.length c0_0] 32]))
  case atStart => exact ⟨0, rfl, Lib.hid (by omega), HH, HI⟩
  case round =>
    clear HI HH
    obtain ⟨i, rfl, HK, HG, HI⟩ := hrel
    by_cases hlt : i < n ∧ i ≤ 12
    · obtain ⟨b, o, hA, hrow⟩ := Ky.row_entry HR1.out (by have := HN.out; omega)
      obtain ⟨x, hx⟩ : ∃ x, l1[i]? = some x := ⟨_, List.getElem?_eq_getElem (by have := HN.out; omega)⟩
      have HKx := Lib.hid (hrow i x hx).1
      have HCx := Lib.hid (hrow i x hx).2
      have HPV := Lib.hid (Ky.prev_succ hx)
      have hg := HG.out
      obtain ⟨hxl, hxe⟩ := List.getElem?_eq_some_iff.1 hx
      rw [List.drop_eq_getElem_cons hxl, hxe, spec_l9Table.go] at hg
      clear hx hxl hxe HG
      rw [if_pos hlt.2] at hg
      have hlt1 := hlt.1
      have hlt2 := hlt.2
      have k0 : (0 : Int) ≤ (i : Int) := by omega
      have k1 : (i : Int) < (n : Int) := by omega
      have k2 : (i : Int) ≤ 12 := by omega
      clear hlt
      obtain ⟨t, ht, hg⟩ := Option.bind_eq_some_iff.mp hg
      have HT := Lib.hid ht
      clear ht
      cases t with
      | false =>
        rw [if_neg (by decide)] at hg
        obtain rfl := Option.some.inj hg
        clear hg hrow
        subst hA
        go_upto_region 4 with (fail)
        refine Fl.start [([],[]),([],[]),([],[]),([1,2],[1,2]),([3],[3]),([4],[4]),([0,5],[0,5]),([6],[6]),([7,6],[7]),([8],[8]),([9,8],[8,9]),([10,8,8],[8,10]),([11],[11]),([11],[11]),([13,11],[11,13]),([12,14,11],[11,12,14]),([15,11],[11,15]),([16,11],[11,16]),([11],[11]),([11],[11]),([18,19,11],[11,18,19]),([20,11],[11,20]),([21,11],[11,21]),([17,22,11,11],[11,17,22]),([23,11],[11,23]),([11,24,8],[8,11,24]),([8,25],[8,25])] [] 28 [.take 0, .take 1, .take 2, .take 3, .take 4, .take 5, .one 6, .take 7, .take 8, .take 9, .take 10, .take 11, .take 12, .take 13, .take 14, .take 15, .take 16, .take 17, .take 18, .take 19, .take 20, .take 21, .take 22, .take 23, .take 24, .take 25, .take 26] [] (by kernel_rfl) (by kernel_rfl) (by decide) (by decide) (by kernel_rfl) (by kernel_rfl) Fl.mk0 HI.out ?_
        refine Fl.take (some 16) (v := .agg #[.slice A0_0 l0_0.length c0_0]) rfl rfl (Fl.ld 0 rfl (by rfl) _ _ rfl rfl Try.underlying32 rfl (by kernel_rfl)) ?_
        simp only [Act.put, Fl.z1, Fl.z2, Fl.z3]
        refine Fl.take (some 17) (v := .slice (some ⟨b, o, none⟩) n c1) rfl rfl (Or.inl ⟨by rfl, fun _ _ => by rfl⟩) ?_
        simp only [Act.put, Fl.z1, Fl.z2, Fl.z3]
        refine Fl.take (some 18) (v := .int .i64 (i : Int)) rfl rfl (Or.inl ⟨by rfl, fun _ _ => by rfl⟩) ?_
        simp only [Act.put, Fl.z1, Fl.z2, Fl.z3]
        refine Fl.take (some 19) (v := .pointer (some ⟨b, o + i * 20, none⟩)) rfl rfl (Or.inl ⟨by rfl, fun _ _ => by first | rfl | (go_simp; done) | (go_simp; rfl) | (go_simp; omega)⟩) ?_
        simp only [Act.put, Fl.z1, Fl.z2, Fl.z3]
        refine Fl.take (some 20) (v := .pointer (some ⟨b, o + i * 20 + 16, none⟩)) rfl rfl (Or.inl ⟨by rfl, fun _ _ => by first | rfl | (go_simp; done) | (go_simp; rfl) | (go_simp; omega)⟩) ?_
        simp only [Act.put, Fl.z1, Fl.z2, Fl.z3]
        refine Fl.take (some 21) (v := .agg (Ky.wc x)) rfl rfl (yieldsIf_load_mid (by rfl) 54 _ rfl b (o + i * 20 + 16) rfl (Ky.wc x).toList _ (fun W1 hW1 => Ky.range_below (Ky.range_win HKx.out HCx.out) hW1.bel) Try.underlying54 rfl (by kernel_rfl)) ?_
        simp only [Act.put, Fl.z1, Fl.z2, Fl.z3]
        refine Fl.call (some 22) Try.func65 (by kernel_rfl) rfl #[.agg #[.slice A0_0 l0_0.length c0_0], .agg (Ky.wc x)] rfl rfl rfl (by rfl) rfl (fun E W hE hi => ?_)
        refine (spec_l2Window.calls k _ _ l0_0 x.a x.s x.l x.c false W (Kd.C_below HR0.out hi.bel) HC0.out HT.out).mono ?_
        rintro e W' ⟨rfl, hb⟩
        refine Fl.keep (v := .bool false) hi hb ?_
        clear hi hb hE
        simp only [Act.put, Fl.z1, Fl.z2, Fl.z3]
        refine Fl.take (some 23) (v := .bool true) rfl rfl (Or.inl ⟨by rfl, fun _ _ => by rfl⟩) ?_
        simp only [Act.put, Fl.z1, Fl.z2, Fl.z3]
        refine Fl.take (some 24) (v := .bool true) rfl rfl (Or.inl ⟨by rfl, fun _ _ => by rfl⟩) ?_
        simp only [Act.put, Fl.z1, Fl.z2, Fl.z3]
        refine Fl.take (some 25) (v := undef) rfl rfl (Or.inr ⟨by rfl, rfl⟩) ?_
        simp only [Act.put, Fl.z1, Fl.z2, Fl.z3]
        refine Fl.take (some 26) (v := undef) rfl rfl (Or.inr ⟨by rfl, rfl⟩) ?_
        simp only [Act.put, Fl.z1, Fl.z2, Fl.z3]
        refine Fl.take (some 27) (v := undef) rfl rfl (Or.inr ⟨by rfl, rfl⟩) ?_
        simp only [Act.put, Fl.z1, Fl.z2, Fl.z3]
        refine Fl.take (some 28) (v := undef) rfl rfl (Or.inr ⟨by rfl, rfl⟩) ?_
        simp only [Act.put, Fl.z1, Fl.z2, Fl.z3]
        refine Fl.take (some 29) (v := undef) rfl rfl (Or.inr ⟨by rfl, rfl⟩) ?_
        simp only [Act.put, Fl.z1, Fl.z2, Fl.z3]
        refine Fl.take (some 30) (v := undef) rfl rfl (Or.inr ⟨by rfl, rfl⟩) ?_
        simp only [Act.put, Fl.z1, Fl.z2, Fl.z3]
        refine Fl.take (some 31) (v := undef) rfl rfl (Or.inr ⟨by rfl, rfl⟩) ?_
        simp only [Act.put, Fl.z1, Fl.z2, Fl.z3]
        refine Fl.take (some 32) (v := undef) rfl rfl (Or.inr ⟨by rfl, rfl⟩) ?_
        simp only [Act.put, Fl.z1, Fl.z2, Fl.z3]
        refine Fl.take (some 33) (v := undef) rfl rfl (Or.inr ⟨by rfl, rfl⟩) ?_
        simp only [Act.put, Fl.z1, Fl.z2, Fl.z3]
        refine Fl.take (some 34) (v := undef) rfl rfl (Or.inr ⟨by rfl, rfl⟩) ?_
        simp only [Act.put, Fl.z1, Fl.z2, Fl.z3]
        refine Fl.take (some 35) (v := undef) rfl rfl (Or.inr ⟨by rfl, rfl⟩) ?_
        simp only [Act.put, Fl.z1, Fl.z2, Fl.z3]
        refine Fl.take (some 36) (v := undef) rfl rfl (Or.inr ⟨by rfl, rfl⟩) ?_
        simp only [Act.put, Fl.z1, Fl.z2, Fl.z3]
        refine Fl.take (some 37) (v := undef) rfl rfl (Or.inr ⟨by rfl, rfl⟩) ?_
        simp only [Act.put, Fl.z1, Fl.z2, Fl.z3]
        refine Fl.take (some 38) (v := undef) rfl rfl (Or.inr ⟨by rfl, rfl⟩) ?_
        simp only [Act.put, Fl.z1, Fl.z2, Fl.z3]
        refine Fl.take (some 39) (v := undef) rfl rfl (Or.inr ⟨by rfl, rfl⟩) ?_
        simp only [Act.put, Fl.z1, Fl.z2, Fl.z3]
        refine Fl.take (some 40) (v := undef) rfl rfl (Or.inr ⟨by rfl, rfl⟩) ?_
        simp only [Act.put, Fl.z1, Fl.z2, Fl.z3]
        refine Fl.take (some 41) (v := undef) rfl rfl (Or.inr ⟨by rfl, rfl⟩) ?_
        simp only [Act.put, Fl.z1, Fl.z2, Fl.z3]
        refine Fl.take (some 42) (v := .bool true) rfl rfl (Or.inl ⟨by rfl, fun _ _ => by rfl⟩) ?_
        simp only [Act.put, Fl.z1, Fl.z2, Fl.z3]
        refine Fl.fin0 ?_
        refine Fl.stopN (fun W hi => ?_)
        have HI2 := Lib.hid hi
        clear hi
        go_wp2
        go_ret
        exact ⟨rfl, HI2.out.bel⟩
      | true =>
        rw [if_pos rfl] at hg
        by_cases hi0 : i = 0
        · subst hi0
          rw [show Ky.lessP (Ky.prev l1 0) x = true from rfl, if_pos rfl] at hg
          have HG := Lib.hid (show spec_l9Table.go k l0_0 n (Ky.prev l1 (0 + 1)) (0 + 1) (l1.drop (0 + 1)) = some r by rw [HPV.out]; exact hg)
          clear hg hrow
          subst hA
          go_upto_region 4 with (fail)
          refine Fl.start [([],[]),([],[]),([],[]),([1,2],[1,2]),([3],[3]),([4],[4]),([0,5],[0,5]),([6],[6]),([7,6],[7]),([8],[8]),([9,8],[8,9]),([10,8,8],[8,10]),([11],[11]),([11],[11]),([13,11],[11,13]),([12,14,11],[11,12,14]),([15,11],[11,15]),([16,11],[11,16]),([11],[11]),([11],[11]),([18,19,11],[11,18,19]),([20,11],[11,20]),([21,11],[11,21]),([17,22,11,11],[11,17,22]),([23,11],[11,23]),([11,24,8],[8,11,24]),([8,25],[8,25])] [] 28 [.take 0, .take 1, .take 2, .take 3, .take 4, .take 5, .one 6, .take 7, .take 8, .take 9, .take 10, .take 11, .take 12, .take 13, .take 14, .take 15, .take 16, .take 17, .take 18, .take 19, .take 20, .take 21, .take 22, .take 23, .take 24, .take 25, .take 26] [] (by kernel_rfl) (by kernel_rfl) (by decide) (by decide) (by kernel_rfl) (by kernel_rfl) Fl.mk0 HI.out ?_
          refine Fl.take (some 16) (v := .agg #[.slice A0_0 l0_0.length c0_0]) rfl rfl (Fl.ld 0 rfl (by rfl) _ _ rfl rfl Try.underlying32 rfl (by kernel_rfl)) ?_
          simp only [Act.put, Fl.z1, Fl.z2, Fl.z3]
          refine Fl.take (some 17) (v := .slice (some ⟨b, o, none⟩) n c1) rfl rfl (Or.inl ⟨by rfl, fun _ _ => by rfl⟩) ?_
          simp only [Act.put, Fl.z1, Fl.z2, Fl.z3]
          refine Fl.take (some 18) (v := .int .i64 0) rfl rfl (Or.inl ⟨by rfl, fun _ _ => by rfl⟩) ?_
          simp only [Act.put, Fl.z1, Fl.z2, Fl.z3]
          refine Fl.take (some 19) (v := .pointer (some ⟨b, o, none⟩)) rfl rfl (Or.inl ⟨by rfl, fun _ _ => by first | rfl | (go_simp; done) | (go_simp; rfl) | (go_simp; omega)⟩) ?_
          simp only [Act.put, Fl.z1, Fl.z2, Fl.z3]
          refine Fl.take (some 20) (v := .pointer (some ⟨b, o + 16, none⟩)) rfl rfl (Or.inl ⟨by rfl, fun _ _ => by first | rfl | (go_simp; done) | (go_simp; rfl) | (go_simp; omega)⟩) ?_
          simp only [Act.put, Fl.z1, Fl.z2, Fl.z3]
          refine Fl.take (some 21) (v := .agg (Ky.wc x)) rfl rfl (yieldsIf_load_mid (by rfl) 54 _ rfl b (o + 16) rfl (Ky.wc x).toList _ (fun W1 hW1 => Ky.range_below (Ky.range_win HKx.out HCx.out) hW1.bel) Try.underlying54 rfl (by kernel_rfl)) ?_
          simp only [Act.put, Fl.z1, Fl.z2, Fl.z3]
          refine Fl.call (some 22) Try.func65 (by kernel_rfl) rfl #[.agg #[.slice A0_0 l0_0.length c0_0], .agg (Ky.wc x)] rfl rfl rfl (by rfl) rfl (fun E W hE hi => ?_)
          refine (spec_l2Window.calls k _ _ l0_0 x.a x.s x.l x.c true W (Kd.C_below HR0.out hi.bel) HC0.out HT.out).mono ?_
          rintro e W' ⟨rfl, hb⟩
          refine Fl.keep (v := .bool true) hi hb ?_
          clear hi hb hE
          simp only [Act.put, Fl.z1, Fl.z2, Fl.z3]
          refine Fl.take (some 23) (v := .bool false) rfl rfl (Or.inl ⟨by rfl, fun _ _ => by rfl⟩) ?_
          simp only [Act.put, Fl.z1, Fl.z2, Fl.z3]
          refine Fl.take (some 24) (v := .bool false) rfl rfl (Or.inl ⟨by rfl, fun _ _ => by rfl⟩) ?_
          simp only [Act.put, Fl.z1, Fl.z2, Fl.z3]
          refine Fl.take (some 25) (v := .int .i64 0) rfl rfl (Or.inl ⟨by rfl, fun _ _ => by rfl⟩) ?_
          simp only [Act.put, Fl.z1, Fl.z2, Fl.z3]
          refine Fl.take (some 26) (v := .bool false) rfl rfl (Or.inl ⟨by rfl, fun _ _ => by first | rfl | (go_simp; done) | (go_simp; rfl) | (go_simp; omega)⟩) ?_
          simp only [Act.put, Fl.z1, Fl.z2, Fl.z3]
          refine Fl.take (some 27) (v := .bool false) rfl rfl (Or.inl ⟨by rfl, fun _ _ => by rfl⟩) ?_
          simp only [Act.put, Fl.z1, Fl.z2, Fl.z3]
          refine Fl.take (some 28) (v := undef) rfl rfl (Or.inr ⟨by rfl, rfl⟩) ?_
          simp only [Act.put, Fl.z1, Fl.z2, Fl.z3]
          refine Fl.take (some 29) (v := undef) rfl rfl (Or.inr ⟨by rfl, rfl⟩) ?_
          simp only [Act.put, Fl.z1, Fl.z2, Fl.z3]
          refine Fl.take (some 30) (v := undef) rfl rfl (Or.inr ⟨by rfl, rfl⟩) ?_
          simp only [Act.put, Fl.z1, Fl.z2, Fl.z3]
          refine Fl.take (some 31) (v := undef) rfl rfl (Or.inr ⟨by rfl, rfl⟩) ?_
          simp only [Act.put, Fl.z1, Fl.z2, Fl.z3]
          refine Fl.take (some 32) (v := undef) rfl rfl (Or.inr ⟨by rfl, rfl⟩) ?_
          simp only [Act.put, Fl.z1, Fl.z2, Fl.z3]
          refine Fl.take (some 33) (v := undef) rfl rfl (Or.inr ⟨by rfl, rfl⟩) ?_
          simp only [Act.put, Fl.z1, Fl.z2, Fl.z3]
          refine Fl.take (some 34) (v := undef) rfl rfl (Or.inr ⟨by rfl, rfl⟩) ?_
          simp only [Act.put, Fl.z1, Fl.z2, Fl.z3]
          refine Fl.take (some 35) (v := undef) rfl rfl (Or.inr ⟨by rfl, rfl⟩) ?_
          simp only [Act.put, Fl.z1, Fl.z2, Fl.z3]
          refine Fl.take (some 36) (v := undef) rfl rfl (Or.inr ⟨by rfl, rfl⟩) ?_
          simp only [Act.put, Fl.z1, Fl.z2, Fl.z3]
          refine Fl.take (some 37) (v := undef) rfl rfl (Or.inr ⟨by rfl, rfl⟩) ?_
          simp only [Act.put, Fl.z1, Fl.z2, Fl.z3]
          refine Fl.take (some 38) (v := undef) rfl rfl (Or.inr ⟨by rfl, rfl⟩) ?_
          simp only [Act.put, Fl.z1, Fl.z2, Fl.z3]
          refine Fl.take (some 39) (v := undef) rfl rfl (Or.inr ⟨by rfl, rfl⟩) ?_
          simp only [Act.put, Fl.z1, Fl.z2, Fl.z3]
          refine Fl.take (some 40) (v := undef) rfl rfl (Or.inr ⟨by rfl, rfl⟩) ?_
          simp only [Act.put, Fl.z1, Fl.z2, Fl.z3]
          refine Fl.take (some 41) (v := .bool false) rfl rfl (Or.inl ⟨by rfl, fun _ _ => by rfl⟩) ?_
          simp only [Act.put, Fl.z1, Fl.z2, Fl.z3]
          refine Fl.take (some 42) (v := .bool false) rfl rfl (Or.inl ⟨by rfl, fun _ _ => by rfl⟩) ?_
          simp only [Act.put, Fl.z1, Fl.z2, Fl.z3]
          refine Fl.fin0 ?_
          refine Fl.stopN (fun W hi => ?_)
          have HI2 := Lib.hid hi
          clear hi
          go_wp2
          go_roundg (13 - (0 + 1))
          case measure => have := HK.out; omega
          case rel => exact ⟨0 + 1, by go_num, Lib.hid (by have := HK.out; omega), HG, HI2⟩
        · obtain ⟨p, hp⟩ : ∃ p, l1[i - 1]? = some p := ⟨_, List.getElem?_eq_getElem (by have := HN.out; omega)⟩
          have HKp := Lib.hid (hrow (i - 1) p hp).1
          have HCp := Lib.hid (hrow (i - 1) p hp).2
          rw [show Ky.prev l1 i = some p from by unfold Ky.prev; rw [if_neg hi0]; exact hp, show Ky.lessP (some p) x = Ky.lessF p.key x.key from rfl] at hg
          rw [show i - 1 = ((i : Int) - 1).toNat from by omega] at HCp
          have g0 : (0 : Int) ≤ (i : Int) - 1 := by omega
          have g1 : (i : Int) - 1 < (n : Int) := by omega
          have g2 : decide ((i : Int) > 0) = true := decide_eq_true (by omega)
          have g3 : IntKind.i64.wrap ((i : Int) - 1) = (i : Int) - 1 := by rw [IntKind.wrap_i64]; omega
          have g4 : (0 : Int) < (i : Int) := by omega
          have g7 : ((i : Int) < 1) = False := by simp; omega
          clear hp hrow
          subst hA
          cases hlf : Ky.lessF p.key x.key with
          | true =>
            rw [hlf, if_pos rfl] at hg
            have HG := Lib.hid (show spec_l9Table.go k l0_0 n (Ky.prev l1 (i + 1)) (i + 1) (l1.drop (i + 1)) = some r by rw [HPV.out]; exact hg)
            have HL := Lib.hid (show spec_LessKey.f p.key x.key = some true from congrArg some hlf)
            clear hg hlf
            go_upto_region 4 with (fail)
            refine Fl.start [([],[]),([],[]),([],[]),([1,2],[1,2]),([3],[3]),([4],[4]),([0,5],[0,5]),([6],[6]),([7,6],[7]),([8],[8]),([9,8],[8,9]),([10,8,8],[8,10]),([11],[11]),([11],[11]),([13,11],[11,13]),([12,14,11],[11,12,14]),([15,11],[11,15]),([16,11],[11,16]),([11],[11]),([11],[11]),([18,19,11],[11,18,19]),([20,11],[11,20]),([21,11],[11,21]),([17,22,11,11],[11,17,22]),([23,11],[11,23]),([11,24,8],[8,11,24]),([8,25],[8,25])] [] 28 [.take 0, .take 1, .take 2, .take 3, .take 4, .take 5, .one 6, .take 7, .take 8, .take 9, .take 10, .take 11, .take 12, .take 13, .take 14, .take 15, .take 16, .take 17, .take 18, .take 19, .take 20, .take 21, .take 22, .one 23, .take 24, .take 25, .take 26] [] (by kernel_rfl) (by kernel_rfl) (by decide) (by decide) (by kernel_rfl) (by kernel_rfl) Fl.mk0 HI.out ?_
            refine Fl.take (some 16) (v := .agg #[.slice A0_0 l0_0.length c0_0]) rfl rfl (Fl.ld 0 rfl (by rfl) _ _ rfl rfl Try.underlying32 rfl (by kernel_rfl)) ?_
            simp only [Act.put, Fl.z1, Fl.z2, Fl.z3]
            refine Fl.take (some 17) (v := .slice (some ⟨b, o, none⟩) n c1) rfl rfl (Or.inl ⟨by rfl, fun _ _ => by rfl⟩) ?_
            simp only [Act.put, Fl.z1, Fl.z2, Fl.z3]
            refine Fl.take (some 18) (v := .int .i64 (i : Int)) rfl rfl (Or.inl ⟨by rfl, fun _ _ => by rfl⟩) ?_
            simp only [Act.put, Fl.z1, Fl.z2, Fl.z3]
            refine Fl.take (some 19) (v := .pointer (some ⟨b, o + i * 20, none⟩)) rfl rfl (Or.inl ⟨by rfl, fun _ _ => by first | rfl | (go_simp; done) | (go_simp; rfl) | (go_simp; omega)⟩) ?_
            simp only [Act.put, Fl.z1, Fl.z2, Fl.z3]
            refine Fl.take (some 20) (v := .pointer (some ⟨b, o + i * 20 + 16, none⟩)) rfl rfl (Or.inl ⟨by rfl, fun _ _ => by first | rfl | (go_simp; done) | (go_simp; rfl) | (go_simp; omega)⟩) ?_
            simp only [Act.put, Fl.z1, Fl.z2, Fl.z3]
            refine Fl.take (some 21) (v := .agg (Ky.wc x)) rfl rfl (yieldsIf_load_mid (by rfl) 54 _ rfl b (o + i * 20 + 16) rfl (Ky.wc x).toList _ (fun W1 hW1 => Ky.range_below (Ky.range_win HKx.out HCx.out) hW1.bel) Try.underlying54 rfl (by kernel_rfl)) ?_
            simp only [Act.put, Fl.z1, Fl.z2, Fl.z3]
            refine Fl.call (some 22) Try.func65 (by kernel_rfl) rfl #[.agg #[.slice A0_0 l0_0.length c0_0], .agg (Ky.wc x)] rfl rfl rfl (by rfl) rfl (fun E W hE hi => ?_)
            refine (spec_l2Window.calls k _ _ l0_0 x.a x.s x.l x.c true W (Kd.C_below HR0.out hi.bel) HC0.out HT.out).mono ?_
            rintro e W' ⟨rfl, hb⟩
            refine Fl.keep (v := .bool true) hi hb ?_
            clear hi hb hE
            simp only [Act.put, Fl.z1, Fl.z2, Fl.z3]
            refine Fl.take (some 23) (v := .bool false) rfl rfl (Or.inl ⟨by rfl, fun _ _ => by rfl⟩) ?_
            simp only [Act.put, Fl.z1, Fl.z2, Fl.z3]
            refine Fl.take (some 24) (v := .bool false) rfl rfl (Or.inl ⟨by rfl, fun _ _ => by rfl⟩) ?_
            simp only [Act.put, Fl.z1, Fl.z2, Fl.z3]
            refine Fl.take (some 25) (v := .int .i64 (i : Int)) rfl rfl (Or.inl ⟨by rfl, fun _ _ => by rfl⟩) ?_
            simp only [Act.put, Fl.z1, Fl.z2, Fl.z3]
            refine Fl.take (some 26) (v := .bool true) rfl rfl (Or.inl ⟨by rfl, fun _ _ => by first | rfl | (go_simp; done) | (go_simp; rfl) | (go_simp; omega)⟩) ?_
            simp only [Act.put, Fl.z1, Fl.z2, Fl.z3]
            refine Fl.take (some 27) (v := .bool true) rfl rfl (Or.inl ⟨by rfl, fun _ _ => by rfl⟩) ?_
            simp only [Act.put, Fl.z1, Fl.z2, Fl.z3]
            refine Fl.take (some 28) (v := .slice (some ⟨b, o, none⟩) n c1) rfl rfl (Or.inl ⟨by rfl, fun _ _ => by rfl⟩) ?_
            simp only [Act.put, Fl.z1, Fl.z2, Fl.z3]
            refine Fl.take (some 29) (v := .int .i64 (i : Int)) rfl rfl (Or.inl ⟨by rfl, fun _ _ => by rfl⟩) ?_
            simp only [Act.put, Fl.z1, Fl.z2, Fl.z3]
            refine Fl.take (some 30) (v := .int .i64 ((i : Int) - 1)) rfl rfl (Or.inl ⟨by rfl, fun _ _ => by first | rfl | (go_simp; done) | (go_simp; rfl) | (go_simp; omega)⟩) ?_
            simp only [Act.put, Fl.z1, Fl.z2, Fl.z3]
            refine Fl.take (some 31) (v := .pointer (some ⟨b, o + ((i : Int) - 1).toNat * 20, none⟩)) rfl rfl (Or.inl ⟨by rfl, fun _ _ => by first | rfl | (go_simp; done) | (go_simp; rfl) | (go_simp; omega)⟩) ?_
            simp only [Act.put, Fl.z1, Fl.z2, Fl.z3]
            refine Fl.take (some 32) (v := .pointer (some ⟨b, o + ((i : Int) - 1).toNat * 20, none⟩)) rfl rfl (Or.inl ⟨by rfl, fun _ _ => by first | rfl | (go_simp; done) | (go_simp; rfl) | (go_simp; omega)⟩) ?_
            simp only [Act.put, Fl.z1, Fl.z2, Fl.z3]
            refine Fl.take (some 33) (v := .agg (Ky.bs p.key)) rfl rfl (yieldsIf_load_mid (by rfl) 26 _ rfl b (o + ((i : Int) - 1).toNat * 20) rfl (Ky.bs p.key).toList _ (fun W1 hW1 => Ky.range_below (Ky.range_ekey HKp.out HCp.out) hW1.bel) Ky.hK rfl (by rw [Array.length_toList]; exact Ky.hKk HKp.out)) ?_
            simp only [Act.put, Fl.z1, Fl.z2, Fl.z3]
            refine Fl.take (some 34) (v := .slice (some ⟨b, o, none⟩) n c1) rfl rfl (Or.inl ⟨by rfl, fun _ _ => by rfl⟩) ?_
            simp only [Act.put, Fl.z1, Fl.z2, Fl.z3]
            refine Fl.take (some 35) (v := .int .i64 (i : Int)) rfl rfl (Or.inl ⟨by rfl, fun _ _ => by rfl⟩) ?_
            simp only [Act.put, Fl.z1, Fl.z2, Fl.z3]
            refine Fl.take (some 36) (v := .pointer (some ⟨b, o + i * 20, none⟩)) rfl rfl (Or.inl ⟨by rfl, fun _ _ => by first | rfl | (go_simp; done) | (go_simp; rfl) | (go_simp; omega)⟩) ?_
            simp only [Act.put, Fl.z1, Fl.z2, Fl.z3]
            refine Fl.take (some 37) (v := .pointer (some ⟨b, o + i * 20, none⟩)) rfl rfl (Or.inl ⟨by rfl, fun _ _ => by first | rfl | (go_simp; done) | (go_simp; rfl) | (go_simp; omega)⟩) ?_
            simp only [Act.put, Fl.z1, Fl.z2, Fl.z3]
            refine Fl.take (some 38) (v := .agg (Ky.bs x.key)) rfl rfl (yieldsIf_load_mid (by rfl) 26 _ rfl b (o + i * 20) rfl (Ky.bs x.key).toList _ (fun W1 hW1 => Ky.range_below (Ky.range_ekey HKx.out HCx.out) hW1.bel) Ky.hK rfl (by rw [Array.length_toList]; exact Ky.hKk HKx.out)) ?_
            simp only [Act.put, Fl.z1, Fl.z2, Fl.z3]
            refine Fl.call (some 39) Try.func31 (by kernel_rfl) rfl #[.agg (Ky.bs p.key), .agg (Ky.bs x.key)] rfl rfl rfl (by rfl) rfl (fun E W hE hi => ?_)
            refine (spec_LessKey.calls p.key x.key true W HKp.out HKx.out HL.out).mono ?_
            rintro e W' ⟨rfl, hb⟩
            refine Fl.keep (v := .bool true) hi hb ?_
            clear hi hb hE
            simp only [Act.put, Fl.z1, Fl.z2, Fl.z3]
            refine Fl.take (some 40) (v := .bool false) rfl rfl (Or.inl ⟨by rfl, fun _ _ => by rfl⟩) ?_
            simp only [Act.put, Fl.z1, Fl.z2, Fl.z3]
            refine Fl.take (some 41) (v := .bool false) rfl rfl (Or.inl ⟨by rfl, fun _ _ => by rfl⟩) ?_
            simp only [Act.put, Fl.z1, Fl.z2, Fl.z3]
            refine Fl.take (some 42) (v := .bool false) rfl rfl (Or.inl ⟨by rfl, fun _ _ => by rfl⟩) ?_
            simp only [Act.put, Fl.z1, Fl.z2, Fl.z3]
            refine Fl.fin0 ?_
            refine Fl.stopN (fun W hi => ?_)
            have HI2 := Lib.hid hi
            clear hi
            go_wp2
            go_roundg (13 - (i + 1))
            case measure => have := HK.out; omega
            case rel => exact ⟨i + 1, by go_num, Lib.hid (by have := HK.out; omega), HG, HI2⟩
          | false =>
            rw [hlf, if_neg (by decide)] at hg
            obtain rfl := Option.some.inj hg
            have HL := Lib.hid (show spec_LessKey.f p.key x.key = some false from congrArg some hlf)
            clear hg hlf
            go_upto_region 4 with (fail)
            refine Fl.start [([],[]),([],[]),([],[]),([1,2],[1,2]),([3],[3]),([4],[4]),([0,5],[0,5]),([6],[6]),([7,6],[7]),([8],[8]),([9,8],[8,9]),([10,8,8],[8,10]),([11],[11]),([11],[11]),([13,11],[11,13]),([12,14,11],[11,12,14]),([15,11],[11,15]),([16,11],[11,16]),([11],[11]),([11],[11]),([18,19,11],[11,18,19]),([20,11],[11,20]),([21,11],[11,21]),([17,22,11,11],[11,17,22]),([23,11],[11,23]),([11,24,8],[8,11,24]),([8,25],[8,25])] [] 28 [.take 0, .take 1, .take 2, .take 3, .take 4, .take 5, .one 6, .take 7, .take 8, .take 9, .take 10, .take 11, .take 12, .take 13, .take 14, .take 15, .take 16, .take 17, .take 18, .take 19, .take 20, .take 21, .take 22, .one 23, .take 24, .take 25, .take 26] [] (by kernel_rfl) (by kernel_rfl) (by decide) (by decide) (by kernel_rfl) (by kernel_rfl) Fl.mk0 HI.out ?_
            refine Fl.take (some 16) (v := .agg #[.slice A0_0 l0_0.length c0_0]) rfl rfl (Fl.ld 0 rfl (by rfl) _ _ rfl rfl Try.underlying32 rfl (by kernel_rfl)) ?_
            simp only [Act.put, Fl.z1, Fl.z2, Fl.z3]
            refine Fl.take (some 17) (v := .slice (some ⟨b, o, none⟩) n c1) rfl rfl (Or.inl ⟨by rfl, fun _ _ => by rfl⟩) ?_
            simp only [Act.put, Fl.z1, Fl.z2, Fl.z3]
            refine Fl.take (some 18) (v := .int .i64 (i : Int)) rfl rfl (Or.inl ⟨by rfl, fun _ _ => by rfl⟩) ?_
            simp only [Act.put, Fl.z1, Fl.z2, Fl.z3]
            refine Fl.take (some 19) (v := .pointer (some ⟨b, o + i * 20, none⟩)) rfl rfl (Or.inl ⟨by rfl, fun _ _ => by first | rfl | (go_simp; done) | (go_simp; rfl) | (go_simp; omega)⟩) ?_
            simp only [Act.put, Fl.z1, Fl.z2, Fl.z3]
            refine Fl.take (some 20) (v := .pointer (some ⟨b, o + i * 20 + 16, none⟩)) rfl rfl (Or.inl ⟨by rfl, fun _ _ => by first | rfl | (go_simp; done) | (go_simp; rfl) | (go_simp; omega)⟩) ?_
            simp only [Act.put, Fl.z1, Fl.z2, Fl.z3]
            refine Fl.take (some 21) (v := .agg (Ky.wc x)) rfl rfl (yieldsIf_load_mid (by rfl) 54 _ rfl b (o + i * 20 + 16) rfl (Ky.wc x).toList _ (fun W1 hW1 => Ky.range_below (Ky.range_win HKx.out HCx.out) hW1.bel) Try.underlying54 rfl (by kernel_rfl)) ?_
            simp only [Act.put, Fl.z1, Fl.z2, Fl.z3]
            refine Fl.call (some 22) Try.func65 (by kernel_rfl) rfl #[.agg #[.slice A0_0 l0_0.length c0_0], .agg (Ky.wc x)] rfl rfl rfl (by rfl) rfl (fun E W hE hi => ?_)
            refine (spec_l2Window.calls k _ _ l0_0 x.a x.s x.l x.c true W (Kd.C_below HR0.out hi.bel) HC0.out HT.out).mono ?_
            rintro e W' ⟨rfl, hb⟩
            refine Fl.keep (v := .bool true) hi hb ?_
            clear hi hb hE
            simp only [Act.put, Fl.z1, Fl.z2, Fl.z3]
            refine Fl.take (some 23) (v := .bool false) rfl rfl (Or.inl ⟨by rfl, fun _ _ => by rfl⟩) ?_
            simp only [Act.put, Fl.z1, Fl.z2, Fl.z3]
            refine Fl.take (some 24) (v := .bool false) rfl rfl (Or.inl ⟨by rfl, fun _ _ => by rfl⟩) ?_
            simp only [Act.put, Fl.z1, Fl.z2, Fl.z3]
            refine Fl.take (some 25) (v := .int .i64 (i : Int)) rfl rfl (Or.inl ⟨by rfl, fun _ _ => by rfl⟩) ?_
            simp only [Act.put, Fl.z1, Fl.z2, Fl.z3]
            refine Fl.take (some 26) (v := .bool true) rfl rfl (Or.inl ⟨by rfl, fun _ _ => by first | rfl | (go_simp; done) | (go_simp; rfl) | (go_simp; omega)⟩) ?_
            simp only [Act.put, Fl.z1, Fl.z2, Fl.z3]
            refine Fl.take (some 27) (v := .bool true) rfl rfl (Or.inl ⟨by rfl, fun _ _ => by rfl⟩) ?_
            simp only [Act.put, Fl.z1, Fl.z2, Fl.z3]
            refine Fl.take (some 28) (v := .slice (some ⟨b, o, none⟩) n c1) rfl rfl (Or.inl ⟨by rfl, fun _ _ => by rfl⟩) ?_
            simp only [Act.put, Fl.z1, Fl.z2, Fl.z3]
            refine Fl.take (some 29) (v := .int .i64 (i : Int)) rfl rfl (Or.inl ⟨by rfl, fun _ _ => by rfl⟩) ?_
            simp only [Act.put, Fl.z1, Fl.z2, Fl.z3]
            refine Fl.take (some 30) (v := .int .i64 ((i : Int) - 1)) rfl rfl (Or.inl ⟨by rfl, fun _ _ => by first | rfl | (go_simp; done) | (go_simp; rfl) | (go_simp; omega)⟩) ?_
            simp only [Act.put, Fl.z1, Fl.z2, Fl.z3]
            refine Fl.take (some 31) (v := .pointer (some ⟨b, o + ((i : Int) - 1).toNat * 20, none⟩)) rfl rfl (Or.inl ⟨by rfl, fun _ _ => by first | rfl | (go_simp; done) | (go_simp; rfl) | (go_simp; omega)⟩) ?_
            simp only [Act.put, Fl.z1, Fl.z2, Fl.z3]
            refine Fl.take (some 32) (v := .pointer (some ⟨b, o + ((i : Int) - 1).toNat * 20, none⟩)) rfl rfl (Or.inl ⟨by rfl, fun _ _ => by first | rfl | (go_simp; done) | (go_simp; rfl) | (go_simp; omega)⟩) ?_
            simp only [Act.put, Fl.z1, Fl.z2, Fl.z3]
            refine Fl.take (some 33) (v := .agg (Ky.bs p.key)) rfl rfl (yieldsIf_load_mid (by rfl) 26 _ rfl b (o + ((i : Int) - 1).toNat * 20) rfl (Ky.bs p.key).toList _ (fun W1 hW1 => Ky.range_below (Ky.range_ekey HKp.out HCp.out) hW1.bel) Ky.hK rfl (by rw [Array.length_toList]; exact Ky.hKk HKp.out)) ?_
            simp only [Act.put, Fl.z1, Fl.z2, Fl.z3]
            refine Fl.take (some 34) (v := .slice (some ⟨b, o, none⟩) n c1) rfl rfl (Or.inl ⟨by rfl, fun _ _ => by rfl⟩) ?_
            simp only [Act.put, Fl.z1, Fl.z2, Fl.z3]
            refine Fl.take (some 35) (v := .int .i64 (i : Int)) rfl rfl (Or.inl ⟨by rfl, fun _ _ => by rfl⟩) ?_
            simp only [Act.put, Fl.z1, Fl.z2, Fl.z3]
            refine Fl.take (some 36) (v := .pointer (some ⟨b, o + i * 20, none⟩)) rfl rfl (Or.inl ⟨by rfl, fun _ _ => by first | rfl | (go_simp; done) | (go_simp; rfl) | (go_simp; omega)⟩) ?_
            simp only [Act.put, Fl.z1, Fl.z2, Fl.z3]
            refine Fl.take (some 37) (v := .pointer (some ⟨b, o + i * 20, none⟩)) rfl rfl (Or.inl ⟨by rfl, fun _ _ => by first | rfl | (go_simp; done) | (go_simp; rfl) | (go_simp; omega)⟩) ?_
            simp only [Act.put, Fl.z1, Fl.z2, Fl.z3]
            refine Fl.take (some 38) (v := .agg (Ky.bs x.key)) rfl rfl (yieldsIf_load_mid (by rfl) 26 _ rfl b (o + i * 20) rfl (Ky.bs x.key).toList _ (fun W1 hW1 => Ky.range_below (Ky.range_ekey HKx.out HCx.out) hW1.bel) Ky.hK rfl (by rw [Array.length_toList]; exact Ky.hKk HKx.out)) ?_
            simp only [Act.put, Fl.z1, Fl.z2, Fl.z3]
            refine Fl.call (some 39) Try.func31 (by kernel_rfl) rfl #[.agg (Ky.bs p.key), .agg (Ky.bs x.key)] rfl rfl rfl (by rfl) rfl (fun E W hE hi => ?_)
            refine (spec_LessKey.calls p.key x.key false W HKp.out HKx.out HL.out).mono ?_
            rintro e W' ⟨rfl, hb⟩
            refine Fl.keep (v := .bool false) hi hb ?_
            clear hi hb hE
            simp only [Act.put, Fl.z1, Fl.z2, Fl.z3]
            refine Fl.take (some 40) (v := .bool true) rfl rfl (Or.inl ⟨by rfl, fun _ _ => by rfl⟩) ?_
            simp only [Act.put, Fl.z1, Fl.z2, Fl.z3]
            refine Fl.take (some 41) (v := .bool true) rfl rfl (Or.inl ⟨by rfl, fun _ _ => by rfl⟩) ?_
            simp only [Act.put, Fl.z1, Fl.z2, Fl.z3]
            refine Fl.take (some 42) (v := .bool true) rfl rfl (Or.inl ⟨by rfl, fun _ _ => by rfl⟩) ?_
            simp only [Act.put, Fl.z1, Fl.z2, Fl.z3]
            refine Fl.fin0 ?_
            refine Fl.stopN (fun W hi => ?_)
            have HI2 := Lib.hid hi
            clear hi
            go_wp2
            go_ret
            exact ⟨rfl, HI2.out.bel⟩
    · have hg : spec_l9Table.fin k l0_0 n = some r := by
        have hg := HG.out
        by_cases h1 : i < n
        · obtain ⟨x, hx⟩ : ∃ x, l1[i]? = some x := ⟨_, List.getElem?_eq_getElem (by have := HN.out; omega)⟩
          obtain ⟨hxl, hxe⟩ := List.getElem?_eq_some_iff.1 hx
          rw [List.drop_eq_getElem_cons hxl, hxe, spec_l9Table.go, if_neg (by omega)] at hg
          exact hg
        · rw [List.drop_eq_nil_of_le (by have := HN.out; omega), spec_l9Table.go] at hg
          exact hg
      clear HG
      by_cases h1 : i < n
      · have h2 : ¬ i ≤ 12 := by omega
        have h3 : ¬ (i : Int) ≤ 12 := by omega
        have h4 : (i : Int) < (n : Int) := by omega
        clear hlt
        rw [spec_l9Table.fin] at hg
        obtain ⟨t, ht, hg⟩ := Option.bind_eq_some_iff.mp hg
        obtain rfl := Option.some.inj hg
        have HT := Lib.hid ht
        clear ht hg
        cases t with
        | true =>
          go_upto_region 6 with (fail)
          refine Fl.startL [.take 0, .one 1, .take 2, .take 3, .take 4, .take 5, .take 6, .take 7] (by decide) HI.out ?_
          refine Fl.take (some 43) (v := .agg #[.slice A0_0 l0_0.length c0_0]) rfl rfl (Fl.ld 0 rfl (by rfl) _ _ rfl rfl Try.underlying32 rfl (by kernel_rfl)) ?_
          simp only [Act.put, Fl.z1, Fl.z2, Fl.z3]
          refine Fl.call (some 44) Try.func53 (by kernel_rfl) rfl #[.agg #[.slice A0_0 l0_0.length c0_0]] rfl rfl rfl (by rfl) rfl (fun E W hE hi => ?_)
          refine (spec_l2Memory.calls k _ _ l0_0 true W (Kd.C_below HR0.out hi.bel) HC0.out HT.out).mono ?_
          rintro e W' ⟨rfl, hb⟩
          refine Fl.keep (v := .bool true) hi hb ?_
          clear hi hb hE
          simp only [Act.put, Fl.z1, Fl.z2, Fl.z3]
          refine Fl.take (some 45) (v := .bool true) rfl rfl (Or.inl ⟨by rfl, fun _ _ => by rfl⟩) ?_
          simp only [Act.put, Fl.z1, Fl.z2, Fl.z3]
          refine Fl.take (some 46) (v := .slice A1 n c1) rfl rfl (Or.inl ⟨by rfl, fun _ _ => by rfl⟩) ?_
          simp only [Act.put, Fl.z1, Fl.z2, Fl.z3]
          refine Fl.take (some 47) (v := .int .i64 (n : Int)) rfl rfl (Or.inl ⟨by rfl, fun _ _ => by first | rfl | (go_simp; done) | (go_simp; rfl) | (go_simp; omega)⟩) ?_
          simp only [Act.put, Fl.z1, Fl.z2, Fl.z3]
          refine Fl.take (some 48) (v := .bool (decide ((n : Int) ≤ 12))) rfl rfl (Or.inl ⟨by rfl, fun _ _ => by first | rfl | (go_simp; done) | (go_simp; rfl) | (go_simp; omega)⟩) ?_
          simp only [Act.put, Fl.z1, Fl.z2, Fl.z3]
          refine Fl.take (some 49) (v := .bool (decide ((n : Int) ≤ 12))) rfl rfl (Or.inl ⟨by rfl, fun _ _ => by rfl⟩) ?_
          simp only [Act.put, Fl.z1, Fl.z2, Fl.z3]
          refine Fl.take (some 4) (v := .bool (decide ((n : Int) ≤ 12))) rfl rfl (Or.inl ⟨by rfl, fun _ _ => by rfl⟩) ?_
          simp only [Act.put, Fl.z1, Fl.z2, Fl.z3]
          refine Fl.stop (fun W hi => ?_)
          replace HI := Lib.hid hi
          clear hi
          go_wp2
          go_ret
          exact ⟨rfl, HI.out.bel⟩
        | false =>
          go_upto_region 6 with (fail)
          refine Fl.startL [.take 0, .one 1, .take 2, .take 3, .take 4, .take 5, .take 6, .take 7] (by decide) HI.out ?_
          refine Fl.take (some 43) (v := .agg #[.slice A0_0 l0_0.length c0_0]) rfl rfl (Fl.ld 0 rfl (by rfl) _ _ rfl rfl Try.underlying32 rfl (by kernel_rfl)) ?_
          simp only [Act.put, Fl.z1, Fl.z2, Fl.z3]
          refine Fl.call (some 44) Try.func53 (by kernel_rfl) rfl #[.agg #[.slice A0_0 l0_0.length c0_0]] rfl rfl rfl (by rfl) rfl (fun E W hE hi => ?_)
          refine (spec_l2Memory.calls k _ _ l0_0 false W (Kd.C_below HR0.out hi.bel) HC0.out HT.out).mono ?_
          rintro e W' ⟨rfl, hb⟩
          refine Fl.keep (v := .bool false) hi hb ?_
          clear hi hb hE
          simp only [Act.put, Fl.z1, Fl.z2, Fl.z3]
          refine Fl.take (some 45) (v := .bool false) rfl rfl (Or.inl ⟨by rfl, fun _ _ => by rfl⟩) ?_
          simp only [Act.put, Fl.z1, Fl.z2, Fl.z3]
          refine Fl.take (some 46) (v := undef) rfl rfl (Or.inr ⟨by rfl, rfl⟩) ?_
          simp only [Act.put, Fl.z1, Fl.z2, Fl.z3]
          refine Fl.take (some 47) (v := undef) rfl rfl (Or.inr ⟨by rfl, rfl⟩) ?_
          simp only [Act.put, Fl.z1, Fl.z2, Fl.z3]
          refine Fl.take (some 48) (v := undef) rfl rfl (Or.inr ⟨by rfl, rfl⟩) ?_
          simp only [Act.put, Fl.z1, Fl.z2, Fl.z3]
          refine Fl.take (some 49) (v := .bool false) rfl rfl (Or.inl ⟨by rfl, fun _ _ => by rfl⟩) ?_
          simp only [Act.put, Fl.z1, Fl.z2, Fl.z3]
          refine Fl.take (some 4) (v := .bool false) rfl rfl (Or.inl ⟨by rfl, fun _ _ => by rfl⟩) ?_
          simp only [Act.put, Fl.z1, Fl.z2, Fl.z3]
          refine Fl.stop (fun W hi => ?_)
          replace HI := Lib.hid hi
          clear hi
          go_wp2
          go_ret
          exact ⟨rfl, HI.out.bel⟩
      · have h4 : ¬ (i : Int) < (n : Int) := by omega
        clear hlt
        rw [spec_l9Table.fin] at hg
        obtain ⟨t, ht, hg⟩ := Option.bind_eq_some_iff.mp hg
        obtain rfl := Option.some.inj hg
        have HT := Lib.hid ht
        clear ht hg
        cases t with
        | true =>
          go_upto_region 6 with (fail)
          refine Fl.startL [.take 0, .one 1, .take 2, .take 3, .take 4, .take 5, .take 6, .take 7] (by decide) HI.out ?_
          refine Fl.take (some 43) (v := .agg #[.slice A0_0 l0_0.length c0_0]) rfl rfl (Fl.ld 0 rfl (by rfl) _ _ rfl rfl Try.underlying32 rfl (by kernel_rfl)) ?_
          simp only [Act.put, Fl.z1, Fl.z2, Fl.z3]
          refine Fl.call (some 44) Try.func53 (by kernel_rfl) rfl #[.agg #[.slice A0_0 l0_0.length c0_0]] rfl rfl rfl (by rfl) rfl (fun E W hE hi => ?_)
          refine (spec_l2Memory.calls k _ _ l0_0 true W (Kd.C_below HR0.out hi.bel) HC0.out HT.out).mono ?_
          rintro e W' ⟨rfl, hb⟩
          refine Fl.keep (v := .bool true) hi hb ?_
          clear hi hb hE
          simp only [Act.put, Fl.z1, Fl.z2, Fl.z3]
          refine Fl.take (some 45) (v := .bool true) rfl rfl (Or.inl ⟨by rfl, fun _ _ => by rfl⟩) ?_
          simp only [Act.put, Fl.z1, Fl.z2, Fl.z3]
          refine Fl.take (some 46) (v := .slice A1 n c1) rfl rfl (Or.inl ⟨by rfl, fun _ _ => by rfl⟩) ?_
          simp only [Act.put, Fl.z1, Fl.z2, Fl.z3]
          refine Fl.take (some 47) (v := .int .i64 (n : Int)) rfl rfl (Or.inl ⟨by rfl, fun _ _ => by first | rfl | (go_simp; done) | (go_simp; rfl) | (go_simp; omega)⟩) ?_
          simp only [Act.put, Fl.z1, Fl.z2, Fl.z3]
          refine Fl.take (some 48) (v := .bool (decide ((n : Int) ≤ 12))) rfl rfl (Or.inl ⟨by rfl, fun _ _ => by first | rfl | (go_simp; done) | (go_simp; rfl) | (go_simp; omega)⟩) ?_
          simp only [Act.put, Fl.z1, Fl.z2, Fl.z3]
          refine Fl.take (some 49) (v := .bool (decide ((n : Int) ≤ 12))) rfl rfl (Or.inl ⟨by rfl, fun _ _ => by rfl⟩) ?_
          simp only [Act.put, Fl.z1, Fl.z2, Fl.z3]
          refine Fl.take (some 4) (v := .bool (decide ((n : Int) ≤ 12))) rfl rfl (Or.inl ⟨by rfl, fun _ _ => by rfl⟩) ?_
          simp only [Act.put, Fl.z1, Fl.z2, Fl.z3]
          refine Fl.stop (fun W hi => ?_)
          replace HI := Lib.hid hi
          clear hi
          go_wp2
          go_ret
          exact ⟨rfl, HI.out.bel⟩
        | false =>
          go_upto_region 6 with (fail)
          refine Fl.startL [.take 0, .one 1, .take 2, .take 3, .take 4, .take 5, .take 6, .take 7] (by decide) HI.out ?_
          refine Fl.take (some 43) (v := .agg #[.slice A0_0 l0_0.length c0_0]) rfl rfl (Fl.ld 0 rfl (by rfl) _ _ rfl rfl Try.underlying32 rfl (by kernel_rfl)) ?_
          simp only [Act.put, Fl.z1, Fl.z2, Fl.z3]
          refine Fl.call (some 44) Try.func53 (by kernel_rfl) rfl #[.agg #[.slice A0_0 l0_0.length c0_0]] rfl rfl rfl (by rfl) rfl (fun E W hE hi => ?_)
          refine (spec_l2Memory.calls k _ _ l0_0 false W (Kd.C_below HR0.out hi.bel) HC0.out HT.out).mono ?_
          rintro e W' ⟨rfl, hb⟩
          refine Fl.keep (v := .bool false) hi hb ?_
          clear hi hb hE
          simp only [Act.put, Fl.z1, Fl.z2, Fl.z3]
          refine Fl.take (some 45) (v := .bool false) rfl rfl (Or.inl ⟨by rfl, fun _ _ => by rfl⟩) ?_
          simp only [Act.put, Fl.z1, Fl.z2, Fl.z3]
          refine Fl.take (some 46) (v := undef) rfl rfl (Or.inr ⟨by rfl, rfl⟩) ?_
          simp only [Act.put, Fl.z1, Fl.z2, Fl.z3]
          refine Fl.take (some 47) (v := undef) rfl rfl (Or.inr ⟨by rfl, rfl⟩) ?_
          simp only [Act.put, Fl.z1, Fl.z2, Fl.z3]
          refine Fl.take (some 48) (v := undef) rfl rfl (Or.inr ⟨by rfl, rfl⟩) ?_
          simp only [Act.put, Fl.z1, Fl.z2, Fl.z3]
          refine Fl.take (some 49) (v := .bool false) rfl rfl (Or.inl ⟨by rfl, fun _ _ => by rfl⟩) ?_
          simp only [Act.put, Fl.z1, Fl.z2, Fl.z3]
          refine Fl.take (some 4) (v := .bool false) rfl rfl (Or.inl ⟨by rfl, fun _ _ => by rfl⟩) ?_
          simp only [Act.put, Fl.z1, Fl.z2, Fl.z3]
          refine Fl.stop (fun W hi => ?_)
          replace HI := Lib.hid hi
          clear hi
          go_wp2
          go_ret
          exact ⟨rfl, HI.out.bel⟩

/-! ### spec_l9Find: function 45 (by hand) -/
def spec_l9Find.f (l0 : List Ky.En) (a1 : List Int) : Option Int := if l0.length ≤ 1048576 then some (Ky.findF a1 0 l0) else none
set_option maxHeartbeats 4000000 in
set_option maxRecDepth 100000 in
theorem spec_l9Find.calls (A0 : Option Addr) (c0 : Nat) (l0 : List Ky.En) (a1 : List Int) (r : Int) (w : World) (hr0 : Kd.C Ky.ke w A0 l0.length l0) (hc0 : l0.length ≤ c0) (hk1 : Ky.Key a1) (h : spec_l9Find.f l0 a1 = some r) :
    Calls Try.prog 45 #[.slice A0 l0.length c0, .agg (Ky.bs a1)] w fun e w' => e = .returned (.int .i64 r) ∧ Below w.heap.size w w' := by
  have HR0 := Lib.hid hr0
  have HA := Lib.hid hk1
  clear hr0 hc0 hk1
  obtain ⟨hle, h⟩ := Ky.of_cond h
  obtain ⟨n, hn⟩ : ∃ n, n = l0.length := ⟨_, rfl⟩
  rw [← hn] at hle ⊢
  have HN := Lib.hid hn
  have HM := Lib.hid hle
  have HH := Lib.hid h
  clear hn h hle
  obtain ⟨W0, hW⟩ : ∃ W, W = w.alloc (.cells (Ky.bs a1) 26) := ⟨_, rfl⟩
  have HI : Hid (Lv.Inv w W0 [Lv.boxF (w.heap.size) (Ky.bs a1) 26]) := by
    subst hW
    have := (Lv.Inv.refl w).box (Ky.bs a1) 26
    exact Lib.hid (by simpa using this)
  go_enter Try.func45, Try.ntmps45
  go_upto_region 1 with (fail)
  rw [← hW]
  clear hW
  go_wp2
  go_loopg [5] n (fun gg s5 wr => ∃ (i : Nat), s5 = .int .i64 i ∧ Hid (i ≤ n ∧ n - i ≤ gg) ∧ Hid (Ky.findF a1 i (l0.drop i) = r) ∧ Hid (Lv.Inv w wr [Lv.boxF (w.heap.size) (Ky.bs a1) 26]))
  case atStart => exact ⟨0, rfl, Lib.hid (by omega), HH, HI⟩
  case round =>
    clear HI HH
    obtain ⟨i, rfl, HK, HG, HI⟩ := hrel
    by_cases hlt : i < n
    · obtain ⟨b, o, hA, hrow⟩ := Ky.row_entry HR0.out (by have := HN.out; omega)
      obtain ⟨x, hx⟩ : ∃ x, l0[i]? = some x := ⟨_, List.getElem?_eq_getElem (by have := HN.out; omega)⟩
      have HKx := Lib.hid (hrow i x hx).1
      have HCx := Lib.hid (hrow i x hx).2
      have hg := HG.out
      obtain ⟨hxl, hxe⟩ := List.getElem?_eq_some_iff.1 hx
      rw [List.drop_eq_getElem_cons hxl, hxe, Ky.findF] at hg
      clear hx hxl hxe HG hrow
      subst hA
      have k0 : (0 : Int) ≤ (i : Int) := by omega
      have k1 : (i : Int) < (n : Int) := by omega
      have k3 : ((n : Int)).toNat ≤ 1048576 := by have := HM.out; omega
      by_cases hq : x.key = a1
      · rw [if_pos hq] at hg
        subst hg
        have hd := decide_eq_true hq
        clear hq
        go_upto_region 4 with (fail)
        refine Fl.start [([],[]),([],[]),([0,1],[0,1]),([2],[2]),([3],[3]),([],[]),([4,5],[4,5])] [] 8 [.take 0, .take 1, .take 2, .take 3, .take 4, .take 5, .take 6] [] (by kernel_rfl) (by kernel_rfl) (by decide) (by decide) (by kernel_rfl) (by kernel_rfl) Fl.mk0 HI.out ?_
        refine Fl.take (some 12) (v := .slice (some ⟨b, o, none⟩) n c0) rfl rfl (Or.inl ⟨by rfl, fun _ _ => by rfl⟩) ?_
        simp only [Act.put, Fl.z1, Fl.z2, Fl.z3]
        refine Fl.take (some 13) (v := .int .i64 (i : Int)) rfl rfl (Or.inl ⟨by rfl, fun _ _ => by rfl⟩) ?_
        simp only [Act.put, Fl.z1, Fl.z2, Fl.z3]
        refine Fl.take (some 14) (v := .pointer (some ⟨b, o + i * 20, none⟩)) rfl rfl (Or.inl ⟨by rfl, fun _ _ => by first | rfl | (go_simp; done) | (go_simp; rfl) | (go_simp; omega)⟩) ?_
        simp only [Act.put, Fl.z1, Fl.z2, Fl.z3]
        refine Fl.take (some 15) (v := .pointer (some ⟨b, o + i * 20, none⟩)) rfl rfl (Or.inl ⟨by rfl, fun _ _ => by first | rfl | (go_simp; done) | (go_simp; rfl) | (go_simp; omega)⟩) ?_
        simp only [Act.put, Fl.z1, Fl.z2, Fl.z3]
        refine Fl.take (some 16) (v := .agg (Ky.bs x.key)) rfl rfl (yieldsIf_load_mid (by rfl) 26 _ rfl b (o + i * 20) rfl (Ky.bs x.key).toList _ (fun W1 hW1 => Ky.range_below (Ky.range_ekey HKx.out HCx.out) hW1.bel) Ky.hK rfl (by rw [Array.length_toList]; exact Ky.hKk HKx.out)) ?_
        simp only [Act.put, Fl.z1, Fl.z2, Fl.z3]
        refine Fl.take (some 17) (v := .agg (Ky.bs a1)) rfl rfl (Fl.ld 0 rfl (by rfl) _ _ rfl rfl Ky.hK rfl (Ky.hKk HA.out)) ?_
        simp only [Act.put, Fl.z1, Fl.z2, Fl.z3]
        refine Fl.take (some 18) (v := .bool true) rfl rfl (Ky.yields_eqKeyB hd HKx.out HA.out (by rfl) _ _ _ rfl rfl rfl) ?_
        simp only [Act.put, Fl.z1, Fl.z2, Fl.z3]
        refine Fl.fin0 ?_
        refine Fl.stopN (fun W hi => ?_)
        have HI2 := Lib.hid hi
        clear hi
        go_wp2
        go_ret
        exact ⟨rfl, HI2.out.bel⟩
      · rw [if_neg hq] at hg
        have HG := Lib.hid hg
        have hd := decide_eq_false hq
        clear hq hg
        go_upto_region 4 with (fail)
        refine Fl.start [([],[]),([],[]),([0,1],[0,1]),([2],[2]),([3],[3]),([],[]),([4,5],[4,5])] [] 8 [.take 0, .take 1, .take 2, .take 3, .take 4, .take 5, .take 6] [] (by kernel_rfl) (by kernel_rfl) (by decide) (by decide) (by kernel_rfl) (by kernel_rfl) Fl.mk0 HI.out ?_
        refine Fl.take (some 12) (v := .slice (some ⟨b, o, none⟩) n c0) rfl rfl (Or.inl ⟨by rfl, fun _ _ => by rfl⟩) ?_
        simp only [Act.put, Fl.z1, Fl.z2, Fl.z3]
        refine Fl.take (some 13) (v := .int .i64 (i : Int)) rfl rfl (Or.inl ⟨by rfl, fun _ _ => by rfl⟩) ?_
        simp only [Act.put, Fl.z1, Fl.z2, Fl.z3]
        refine Fl.take (some 14) (v := .pointer (some ⟨b, o + i * 20, none⟩)) rfl rfl (Or.inl ⟨by rfl, fun _ _ => by first | rfl | (go_simp; done) | (go_simp; rfl) | (go_simp; omega)⟩) ?_
        simp only [Act.put, Fl.z1, Fl.z2, Fl.z3]
        refine Fl.take (some 15) (v := .pointer (some ⟨b, o + i * 20, none⟩)) rfl rfl (Or.inl ⟨by rfl, fun _ _ => by first | rfl | (go_simp; done) | (go_simp; rfl) | (go_simp; omega)⟩) ?_
        simp only [Act.put, Fl.z1, Fl.z2, Fl.z3]
        refine Fl.take (some 16) (v := .agg (Ky.bs x.key)) rfl rfl (yieldsIf_load_mid (by rfl) 26 _ rfl b (o + i * 20) rfl (Ky.bs x.key).toList _ (fun W1 hW1 => Ky.range_below (Ky.range_ekey HKx.out HCx.out) hW1.bel) Ky.hK rfl (by rw [Array.length_toList]; exact Ky.hKk HKx.out)) ?_
        simp only [Act.put, Fl.z1, Fl.z2, Fl.z3]
        refine Fl.take (some 17) (v := .agg (Ky.bs a1)) rfl rfl (Fl.ld 0 rfl (by rfl) _ _ rfl rfl Ky.hK rfl (Ky.hKk HA.out)) ?_
        simp only [Act.put, Fl.z1, Fl.z2, Fl.z3]
        refine Fl.take (some 18) (v := .bool false) rfl rfl (Ky.yields_eqKeyB hd HKx.out HA.out (by rfl) _ _ _ rfl rfl rfl) ?_
        simp only [Act.put, Fl.z1, Fl.z2, Fl.z3]
        refine Fl.fin0 ?_
        refine Fl.stopN (fun W hi => ?_)
        have HI2 := Lib.hid hi
        clear hi
        go_wp2
        go_roundg (n - (i + 1))
        case measure => have := HK.out; omega
        case rel => exact ⟨i + 1, by go_num, Lib.hid (by have := HK.out; omega), HG, HI2⟩
    · have c9 : decide ((i : Int) < (n : Int)) = false := decide_eq_false (by omega)
      have hg := HG.out
      rw [List.drop_eq_nil_of_le (by have := HN.out; omega), Ky.findF] at hg
      subst hg
      clear HG
      go_wp2
      go_ret
      exact ⟨rfl, HI.out.bel⟩

/-! ### spec_DropEntry: function 18 (by hand) -/
def spec_DropEntry.f (k : Nat) (l0_0 : List (List Int)) (l1 : List Ky.En) (a2 : List Int) : Option (List Ky.En × Bool) := if l1.length ≤ 1048576 then (spec_l9Table.f k l0_0 l1).bind fun t => if t = true then (spec_l9Find.f l1 a2).bind fun r => if r < 0 then some ([], false) else if r < (l1.length : Int) then some (l1.take r.toNat ++ l1.drop (r.toNat + 1), true) else none else some ([], false) else none
theorem spec_DropEntry.mono : ∀ a0 a1 a2 k, LeO (spec_DropEntry.f k a0 a1 a2) (spec_DropEntry.f (k + 1) a0 a1 a2) := by
  intro a0 a1 a2 k
  unfold spec_DropEntry.f
  exact LeO.ite (LeO.bind (by apply spec_l9Table.mono) (fun _ => LeO.refl _)) (LeO.refl _)
set_option maxHeartbeats 4000000 in
set_option maxRecDepth 100000 in
theorem spec_DropEntry.calls (k : Nat) (A0_0 : Option Addr) (c0_0 : Nat) (l0_0 : List (List Int)) (A1 : Option Addr) (c1 : Nat) (l1 : List Ky.En) (a2 : List Int) (r1 : List Ky.En) (r2 : Bool) (w : World) (hr0_0 : Kd.C (Kd.slice 5 (Kd.int .u8)) w A0_0 l0_0.length l0_0) (hc0_0 : l0_0.length ≤ c0_0) (hr1 : Kd.C Ky.ke w A1 l1.length l1) (hc1 : l1.length ≤ c1) (hk2 : Ky.Key a2) (h : spec_DropEntry.f k l0_0 l1 a2 = some (r1, r2)) :
    Calls Try.prog 18 #[.agg #[.slice A0_0 l0_0.length c0_0], .slice A1 l1.length c1, .agg (Ky.bs a2)] w fun e w' => ∃ v0_ : Value, e = .returned (.tuple #[v0_, .bool r2]) ∧ Kd.R Ky.ke 66 w' w.heap.size (fun _ => True) v0_ r1 ∧ Below w.heap.size w w' := by
  have HR0 := Lib.hid hr0_0
  have HC0 := Lib.hid hc0_0
  have HR1 := Lib.hid hr1
  have HC1 := Lib.hid hc1
  have HA := Lib.hid hk2
  clear hr0_0 hc0_0 hr1 hc1 hk2
  unfold spec_DropEntry.f at h
  obtain ⟨hle, h⟩ := Ky.of_condO h
  have HM := Lib.hid hle
  clear hle
  obtain ⟨W0, hW⟩ : ∃ W, W = (w.alloc (.cells #[.slice A0_0 l0_0.length c0_0] 32)).alloc (.cells (Ky.bs a2) 26) := ⟨_, rfl⟩
  have HI : Hid (Lv.Inv w W0 [Lv.boxF (w.heap.size + 1) (Ky.bs a2) 26, Lv.boxF (w.heap.size) #[.slice A0_0 l0_0.length c0_0] 32]) := by
    subst hW
    have := ((Lv.Inv.refl w).box #[.slice A0_0 l0_0.length c0_0] 32).box (Ky.bs a2) 26
    exact Lib.hid (by simpa using this)
  obtain ⟨t, ht, h⟩ := Option.bind_eq_some_iff.mp h
  have HT := Lib.hid ht
  clear ht
  go_enter Try.func18, Try.ntmps18
  go_upto_region 1 with (fail)
  rw [← hW]
  clear hW
  cases t with
  | false =>
    rw [if_neg (by decide)] at h
    obtain ⟨rfl, rfl⟩ := Prod.mk.inj (Option.some.inj h)
    clear h
    refine Fl.startL [.take 0, .take 1, .one 2, .take 3, .take 4, .take 5, .take 6, .take 7, .take 8, .take 9] (by decide) HI.out ?_
    refine Fl.take (some 9) (v := .agg #[.slice A0_0 l0_0.length c0_0]) rfl rfl (Fl.ld 1 rfl (by rfl) _ _ rfl rfl Try.underlying32 rfl (by kernel_rfl)) ?_
    simp only [Act.put, Fl.z1, Fl.z2, Fl.z3]
    refine Fl.take (some 10) (v := .slice A1 l1.length c1) rfl rfl (Or.inl ⟨by rfl, fun _ _ => by rfl⟩) ?_
    simp only [Act.put, Fl.z1, Fl.z2, Fl.z3]
    refine Fl.call (some 11) Try.func37 (by kernel_rfl) rfl #[.agg #[.slice A0_0 l0_0.length c0_0], .slice A1 l1.length c1] rfl rfl rfl (by rfl) rfl (fun E W hE hi => ?_)
    refine (spec_l9Table.calls k _ _ l0_0 _ _ l1 false W (Kd.C_below HR0.out hi.bel) HC0.out (Kd.C_below HR1.out hi.bel) HC1.out HT.out).mono ?_
    rintro e W' ⟨rfl, hb⟩
    refine Fl.keep (v := .bool false) hi hb ?_
    clear hi hb hE
    simp only [Act.put, Fl.z1, Fl.z2, Fl.z3]
    refine Fl.take (some 12) (v := .bool true) rfl rfl (Or.inl ⟨by rfl, fun _ _ => by rfl⟩) ?_
    simp only [Act.put, Fl.z1, Fl.z2, Fl.z3]
    refine Fl.take (some 13) (v := .bool true) rfl rfl (Or.inl ⟨by rfl, fun _ _ => by rfl⟩) ?_
    simp only [Act.put, Fl.z1, Fl.z2, Fl.z3]
    refine Fl.take (some 14) (v := undef) rfl rfl (Or.inr ⟨by rfl, rfl⟩) ?_
    simp only [Act.put, Fl.z1, Fl.z2, Fl.z3]
    refine Fl.take (some 15) (v := undef) rfl rfl (Or.inr ⟨by rfl, rfl⟩) ?_
    simp only [Act.put, Fl.z1, Fl.z2, Fl.z3]
    refine Fl.take (some 16) (v := undef) rfl rfl (Or.inr ⟨by rfl, rfl⟩) ?_
    simp only [Act.put, Fl.z1, Fl.z2, Fl.z3]
    refine Fl.take (some 17) (v := undef) rfl rfl (Or.inr ⟨by rfl, rfl⟩) ?_
    simp only [Act.put, Fl.z1, Fl.z2, Fl.z3]
    refine Fl.take (some 18) (v := .bool true) rfl rfl (Or.inl ⟨by rfl, fun _ _ => by rfl⟩) ?_
    simp only [Act.put, Fl.z1, Fl.z2, Fl.z3]
    refine Fl.stop (fun W hi => ?_)
    replace HI := Lib.hid hi
    clear hi
    go_upto_region 2 with (fail)
    refine Fl.startL [.one 0, .take 1, .take 2] (by decide) HI.out ?_
    refine Fl.lit0 Ky.ke (e := 66) (N := 19) rfl rfl (by rfl) (fun W => by first | (go_simp; done) | (go_simp; rfl)) (fun v0 => ?_)
    simp only [Act.put, Fl.z1, Fl.z2, Fl.z3]
    refine Fl.take (some 6) (v := v0) rfl rfl (Or.inl ⟨by rfl, fun _ _ => by rfl⟩) ?_
    simp only [Act.put, Fl.z1, Fl.z2, Fl.z3]
    refine Fl.take (some 7) (v := .bool false) rfl rfl (Or.inl ⟨by rfl, fun _ _ => by rfl⟩) ?_
    simp only [Act.put, Fl.z1, Fl.z2, Fl.z3]
    refine Fl.stop (fun W hi => ?_)
    replace HI := Lib.hid hi
    clear hi
    go_wp2
    go_ret2
    obtain ⟨S, _, hR⟩ := HI.out.get 0 rfl
    exact ⟨_, rfl, Kd.R_mono hR (fun _ _ => trivial), HI.out.bel⟩
  | true =>
    rw [if_pos rfl] at h
    obtain ⟨r, hf, h⟩ := Option.bind_eq_some_iff.mp h
    by_cases hneg : r < 0
    · have HF := Lib.hid hf
      clear hf
      rw [if_pos hneg] at h
      obtain ⟨rfl, rfl⟩ := Prod.mk.inj (Option.some.inj h)
      clear h
      refine Fl.startL [.take 0, .take 1, .one 2, .take 3, .take 4, .take 5, .take 6, .one 7, .take 8, .take 9] (by decide) HI.out ?_
      refine Fl.take (some 9) (v := .agg #[.slice A0_0 l0_0.length c0_0]) rfl rfl (Fl.ld 1 rfl (by rfl) _ _ rfl rfl Try.underlying32 rfl (by kernel_rfl)) ?_
      simp only [Act.put, Fl.z1, Fl.z2, Fl.z3]
      refine Fl.take (some 10) (v := .slice A1 l1.length c1) rfl rfl (Or.inl ⟨by rfl, fun _ _ => by rfl⟩) ?_
      simp only [Act.put, Fl.z1, Fl.z2, Fl.z3]
      refine Fl.call (some 11) Try.func37 (by kernel_rfl) rfl #[.agg #[.slice A0_0 l0_0.length c0_0], .slice A1 l1.length c1] rfl rfl rfl (by rfl) rfl (fun E W hE hi => ?_)
      refine (spec_l9Table.calls k _ _ l0_0 _ _ l1 true W (Kd.C_below HR0.out hi.bel) HC0.out (Kd.C_below HR1.out hi.bel) HC1.out HT.out).mono ?_
      rintro e W' ⟨rfl, hb⟩
      refine Fl.keep (v := .bool true) hi hb ?_
      clear hi hb hE
      simp only [Act.put, Fl.z1, Fl.z2, Fl.z3]
      refine Fl.take (some 12) (v := .bool false) rfl rfl (Or.inl ⟨by rfl, fun _ _ => by rfl⟩) ?_
      simp only [Act.put, Fl.z1, Fl.z2, Fl.z3]
      refine Fl.take (some 13) (v := .bool false) rfl rfl (Or.inl ⟨by rfl, fun _ _ => by rfl⟩) ?_
      simp only [Act.put, Fl.z1, Fl.z2, Fl.z3]
      refine Fl.take (some 14) (v := .slice A1 l1.length c1) rfl rfl (Or.inl ⟨by rfl, fun _ _ => by rfl⟩) ?_
      simp only [Act.put, Fl.z1, Fl.z2, Fl.z3]
      refine Fl.take (some 15) (v := .agg (Ky.bs a2)) rfl rfl (Fl.ld 0 rfl (by rfl) _ _ rfl rfl Ky.hK rfl (Ky.hKk HA.out)) ?_
      simp only [Act.put, Fl.z1, Fl.z2, Fl.z3]
      refine Fl.call (some 16) Try.func45 (by kernel_rfl) rfl #[.slice A1 l1.length c1, .agg (Ky.bs a2)] rfl rfl rfl (by rfl) rfl (fun E W hE hi => ?_)
      refine (spec_l9Find.calls _ _ l1 a2 r W (Kd.C_below HR1.out hi.bel) HC1.out HA.out HF.out).mono ?_
      rintro e W' ⟨rfl, hb⟩
      refine Fl.keep (v := .int .i64 r) hi hb ?_
      clear hi hb hE
      simp only [Act.put, Fl.z1, Fl.z2, Fl.z3]
      refine Fl.take (some 17) (v := .bool true) rfl rfl (Or.inl ⟨by rfl, fun _ _ => by first | rfl | (go_simp; done) | (go_simp; rfl) | (go_simp; omega)⟩) ?_
      simp only [Act.put, Fl.z1, Fl.z2, Fl.z3]
      refine Fl.take (some 18) (v := .bool true) rfl rfl (Or.inl ⟨by rfl, fun _ _ => by rfl⟩) ?_
      simp only [Act.put, Fl.z1, Fl.z2, Fl.z3]
      refine Fl.stop (fun W hi => ?_)
      replace HI := Lib.hid hi
      clear hi
      go_upto_region 2 with (fail)
      refine Fl.startL [.one 0, .take 1, .take 2] (by decide) HI.out ?_
      refine Fl.lit0 Ky.ke (e := 66) (N := 19) rfl rfl (by rfl) (fun W => by first | (go_simp; done) | (go_simp; rfl)) (fun v0 => ?_)
      simp only [Act.put, Fl.z1, Fl.z2, Fl.z3]
      refine Fl.take (some 6) (v := v0) rfl rfl (Or.inl ⟨by rfl, fun _ _ => by rfl⟩) ?_
      simp only [Act.put, Fl.z1, Fl.z2, Fl.z3]
      refine Fl.take (some 7) (v := .bool false) rfl rfl (Or.inl ⟨by rfl, fun _ _ => by rfl⟩) ?_
      simp only [Act.put, Fl.z1, Fl.z2, Fl.z3]
      refine Fl.stop (fun W hi => ?_)
      replace HI := Lib.hid hi
      clear hi
      go_wp2
      go_ret2
      obtain ⟨S, _, hR⟩ := HI.out.get 0 rfl
      exact ⟨_, rfl, Kd.R_mono hR (fun _ _ => trivial), HI.out.bel⟩
    · rw [if_neg hneg] at h
      have h3 := Ky.of_condO h
      clear h
      obtain ⟨hlt, h⟩ := h3
      obtain ⟨m, rfl⟩ : ∃ m : Nat, r = (m : Int) := ⟨r.toNat, by omega⟩
      rw [Int.toNat_natCast] at h
      obtain ⟨rfl, rfl⟩ := Prod.mk.inj (Option.some.inj h)
      clear h
      have HMN : Hid (m < l1.length) := Lib.hid (by omega)
      have HF := Lib.hid hf
      have k0 : (0 : Int) ≤ (m : Int) := by omega
      have k5 : ((m : Int) < 0) = False := eq_false (by omega)
      have k6 : IntKind.i64.wrap ((m : Int) + 1) = ((m + 1 : Nat) : Int) := by rw [IntKind.wrap_i64]; have := HM.out; have := HMN.out; omega
      clear hf hlt hneg
      refine Fl.startL [.take 0, .take 1, .one 2, .take 3, .take 4, .take 5, .take 6, .one 7, .take 8, .take 9] (by decide) HI.out ?_
      refine Fl.take (some 9) (v := .agg #[.slice A0_0 l0_0.length c0_0]) rfl rfl (Fl.ld 1 rfl (by rfl) _ _ rfl rfl Try.underlying32 rfl (by kernel_rfl)) ?_
      simp only [Act.put, Fl.z1, Fl.z2, Fl.z3]
      refine Fl.take (some 10) (v := .slice A1 l1.length c1) rfl rfl (Or.inl ⟨by rfl, fun _ _ => by rfl⟩) ?_
      simp only [Act.put, Fl.z1, Fl.z2, Fl.z3]
      refine Fl.call (some 11) Try.func37 (by kernel_rfl) rfl #[.agg #[.slice A0_0 l0_0.length c0_0], .slice A1 l1.length c1] rfl rfl rfl (by rfl) rfl (fun E W hE hi => ?_)
      refine (spec_l9Table.calls k _ _ l0_0 _ _ l1 true W (Kd.C_below HR0.out hi.bel) HC0.out (Kd.C_below HR1.out hi.bel) HC1.out HT.out).mono ?_
      rintro e W' ⟨rfl, hb⟩
      refine Fl.keep (v := .bool true) hi hb ?_
      clear hi hb hE
      simp only [Act.put, Fl.z1, Fl.z2, Fl.z3]
      refine Fl.take (some 12) (v := .bool false) rfl rfl (Or.inl ⟨by rfl, fun _ _ => by rfl⟩) ?_
      simp only [Act.put, Fl.z1, Fl.z2, Fl.z3]
      refine Fl.take (some 13) (v := .bool false) rfl rfl (Or.inl ⟨by rfl, fun _ _ => by rfl⟩) ?_
      simp only [Act.put, Fl.z1, Fl.z2, Fl.z3]
      refine Fl.take (some 14) (v := .slice A1 l1.length c1) rfl rfl (Or.inl ⟨by rfl, fun _ _ => by rfl⟩) ?_
      simp only [Act.put, Fl.z1, Fl.z2, Fl.z3]
      refine Fl.take (some 15) (v := .agg (Ky.bs a2)) rfl rfl (Fl.ld 0 rfl (by rfl) _ _ rfl rfl Ky.hK rfl (Ky.hKk HA.out)) ?_
      simp only [Act.put, Fl.z1, Fl.z2, Fl.z3]
      refine Fl.call (some 16) Try.func45 (by kernel_rfl) rfl #[.slice A1 l1.length c1, .agg (Ky.bs a2)] rfl rfl rfl (by rfl) rfl (fun E W hE hi => ?_)
      refine (spec_l9Find.calls _ _ l1 a2 (m : Int) W (Kd.C_below HR1.out hi.bel) HC1.out HA.out HF.out).mono ?_
      rintro e W' ⟨rfl, hb⟩
      refine Fl.keep (v := .int .i64 (m : Int)) hi hb ?_
      clear hi hb hE
      simp only [Act.put, Fl.z1, Fl.z2, Fl.z3]
      refine Fl.take (some 17) (v := .bool false) rfl rfl (Or.inl ⟨by rfl, fun _ _ => by first | rfl | (go_simp; done) | (go_simp; rfl) | (go_simp; omega)⟩) ?_
      simp only [Act.put, Fl.z1, Fl.z2, Fl.z3]
      refine Fl.take (some 18) (v := .bool false) rfl rfl (Or.inl ⟨by rfl, fun _ _ => by rfl⟩) ?_
      simp only [Act.put, Fl.z1, Fl.z2, Fl.z3]
      refine Fl.stop (fun W hi => ?_)
      replace HI := Lib.hid hi
      clear hi
      go_upto_region 3 with (fail)
      refine Fl.startL [.take 0, .take 1, .one 2, .take 3] (by decide) HI.out ?_
      refine Fl.take (some 20) (v := .slice A1 l1.length c1) rfl rfl (Or.inl ⟨by rfl, fun _ _ => by rfl⟩) ?_
      simp only [Act.put, Fl.z1, Fl.z2, Fl.z3]
      refine Fl.take (some 21) (v := .agg (Ky.bs a2)) rfl rfl (Fl.ld 0 rfl (by rfl) _ _ rfl rfl Ky.hK rfl (Ky.hKk HA.out)) ?_
      simp only [Act.put, Fl.z1, Fl.z2, Fl.z3]
      refine Fl.call (some 22) Try.func45 (by kernel_rfl) rfl #[.slice A1 l1.length c1, .agg (Ky.bs a2)] rfl rfl rfl (by rfl) rfl (fun E W hE hi => ?_)
      refine (spec_l9Find.calls _ _ l1 a2 (m : Int) W (Kd.C_below HR1.out hi.bel) HC1.out HA.out HF.out).mono ?_
      rintro e W' ⟨rfl, hb⟩
      refine Fl.keep (v := .int .i64 (m : Int)) hi hb ?_
      clear hi hb hE
      simp only [Act.put, Fl.z1, Fl.z2, Fl.z3]
      refine Fl.take (some 8) (v := .int .i64 (m : Int)) rfl rfl (Or.inl ⟨by rfl, fun _ _ => by rfl⟩) ?_
      simp only [Act.put, Fl.z1, Fl.z2, Fl.z3]
      refine Fl.stop (fun W hi => ?_)
      replace HI := Lib.hid hi
      clear hi
      obtain ⟨A2, hA2⟩ : ∃ A2 : Option Addr, A2 = (if c1 = m + 1 then A1 else A1.map (·.add ((m + 1) * 20))) := ⟨_, rfl⟩
      have HCF : Hid (∀ W, (Instr.slice 29 (.slice A1 l1.length c1) (some (.int .i64 ((m + 1 : Nat) : Int))) none none).run Try.prog W = .ok (.slice A2 (l1.length - (m + 1)) (c1 - (m + 1))) W) := Lib.hid (fun W => by rw [hA2]; exact Ky.cutFrom A1 l1.length c1 (m + 1) _ rfl HMN.out W)
      have HCD : Hid (∀ W, Below w.heap.size w W → Kd.C Ky.ke W A2 (l1.length - (m + 1)) (l1.drop (m + 1))) := Lib.hid (fun W hb => by have h_ := Kd.C_drop (Kd.C_below HR1.out hb) HMN.out HC1.out; rw [hA2]; rwa [show (l1.drop (m + 1)).length = l1.length - (m + 1) from List.length_drop] at h_)
      clear hA2
      go_upto_region 4 with (fail)
      refine Fl.start [([],[]),([],[]),([],[]),([1,2],[1,2]),([0,3],[0,3]),([],[]),([],[]),([6],[6]),([5,7],[5,7]),([4,8,4],[4,8]),([9,9,0,1,2,3,4,5,6,7,8,9],[9]),([10,0,1,2,3,4,5,6,7,8,9,10],[])] [] 13 [.take 1, .take 2, .take 3, .take 5, .take 6, .take 7, .take 8, .one 0, .one 4, .one 9, .take 10, .take 11] [] (by kernel_rfl) (by kernel_rfl) (by decide) (by decide) (by kernel_rfl) (by kernel_rfl) Fl.mk0 HI.out ?_
      refine Fl.take (some 24) (v := .slice A1 l1.length c1) rfl rfl (Or.inl ⟨by rfl, fun _ _ => by rfl⟩) ?_
      simp only [Act.put, Fl.z1, Fl.z2, Fl.z3]
      refine Fl.take (some 25) (v := .int .i64 (m : Int)) rfl rfl (Or.inl ⟨by rfl, fun _ _ => by rfl⟩) ?_
      simp only [Act.put, Fl.z1, Fl.z2, Fl.z3]
      refine Fl.take (some 26) (v := .slice A1 m c1) rfl rfl (Fl.yields_cut (by rfl) _ _ _ _ _ rfl Try.underlying29 (by exact (fun W => Ky.cutTo A1 l1.length c1 m (Nat.le_of_lt HMN.out) HC1.out W))) ?_
      simp only [Act.put, Fl.z1, Fl.z2, Fl.z3]
      refine Fl.take (some 28) (v := .slice A1 l1.length c1) rfl rfl (Or.inl ⟨by rfl, fun _ _ => by rfl⟩) ?_
      simp only [Act.put, Fl.z1, Fl.z2, Fl.z3]
      refine Fl.take (some 29) (v := .int .i64 (m : Int)) rfl rfl (Or.inl ⟨by rfl, fun _ _ => by rfl⟩) ?_
      simp only [Act.put, Fl.z1, Fl.z2, Fl.z3]
      refine Fl.take (some 30) (v := .int .i64 ((m + 1 : Nat) : Int)) rfl rfl (Or.inl ⟨by rfl, fun _ _ => by first | rfl | (go_simp; done) | (go_simp; rfl) | (go_simp; omega)⟩) ?_
      simp only [Act.put, Fl.z1, Fl.z2, Fl.z3]
      refine Fl.take (some 31) (v := .slice A2 (l1.length - (m + 1)) (c1 - (m + 1))) rfl rfl (Fl.yields_cut (by rfl) _ _ _ _ _ rfl Try.underlying29 (by exact HCF.out)) ?_
      simp only [Act.put, Fl.z1, Fl.z2, Fl.z3]
      refine Fl.lit0 Ky.ke (e := 66) (N := 23) rfl rfl (by rfl) (fun W => by first | (go_simp; done) | (go_simp; rfl)) (fun v0 => ?_)
      simp only [Act.put, Fl.z1, Fl.z2, Fl.z3]
      refine Fl.appRows (N := 27) (bytes := 48) (ys := l1.take m) Ky.ke_KM rfl rfl (by rfl) rfl Try.underlying29 Ky.hEinfo rfl (by decide) (by decide) rfl rfl (by have := HM.out; have := HMN.out; simp; omega) (fun W hb => by have h_ := Kd.C_take (Kd.C_below HR1.out hb) (Nat.le_of_lt HMN.out); rwa [show (l1.take m).length = m by rw [List.length_take]; have := HMN.out; omega] at h_) (fun v1 => ?_)
      simp only [Act.put, Fl.z1, Fl.z2, Fl.z3]
      refine Fl.appRows (N := 32) (bytes := 48) (ys := l1.drop (m + 1)) Ky.ke_KM rfl rfl (by rfl) rfl Try.underlying29 Ky.hEinfo rfl (by decide) (by decide) rfl rfl (by have := HM.out; have := HMN.out; simp; omega) (fun W hb => HCD.out W hb) (fun v2 => ?_)
      simp only [Act.put, Fl.z1, Fl.z2, Fl.z3]
      refine Fl.take (some 6) (v := v2) rfl rfl (Or.inl ⟨by rfl, fun _ _ => by rfl⟩) ?_
      simp only [Act.put, Fl.z1, Fl.z2, Fl.z3]
      refine Fl.take (some 7) (v := .bool true) rfl rfl (Or.inl ⟨by rfl, fun _ _ => by rfl⟩) ?_
      simp only [Act.put, Fl.z1, Fl.z2, Fl.z3]
      refine Fl.fin0 ?_
      refine Fl.stopN (fun W hi => ?_)
      replace HI := Lib.hid hi
      clear hi
      go_wp2
      go_ret2
      obtain ⟨S, _, hR⟩ := HI.out.get 0 rfl
      exact ⟨_, rfl, Kd.R_mono hR (fun _ _ => trivial), HI.out.bel⟩

/-! ### impl_compareKeys: function 41 (by hand) -/
def impl_compareKeys.f (a0 : List Int) (a1 : List Int) : Option Int := if (∀ x ∈ a0, 0 ≤ x ∧ x ≤ 255) ∧ (∀ x ∈ a1, 0 ≤ x ∧ x ≤ 255) then some (Ky.cmpF a0 a1) else none
theorem impl_compareKeys.calls (a0 : List Int) (a1 : List Int) (r : Int) (w : World) (hk0 : Ky.Key a0) (hk1 : Ky.Key a1) (h : impl_compareKeys.f a0 a1 = some r) :
    Calls Try.prog 41 #[.agg (Ky.bs a0), .agg (Ky.bs a1)] w fun e w' => e = .returned (.int .i64 r) ∧ Below w.heap.size w w' := by
  obtain ⟨hc, rfl⟩ := Ky.of_cond h
  exact Ky.cmpKeys a0 a1 hk0 hk1 hc.1 hc.2 w

open Go.Proofs.Ytkifenbcepicjaa.Cp
/-! ### impl_within: function 59 -/
def impl_within.f (a0 : Int) (a1 : Int) (a2 : Int) : Option (Bool) := if a0 ≥ a1 then (some (decide (a0 ≤ a2))) else (some false)
set_option maxHeartbeats 8000000 in
set_option maxRecDepth 100000 in
theorem impl_within.calls (a0 : Int) (a1 : Int) (a2 : Int) (r : Bool) (w : World) (h : impl_within.f a0 a1 a2 = some r) :
  Calls Try.prog 59 #[.int .i64 a0, .int .i64 a1, .int .i64 a2] w fun e w' => e = .returned (.bool r) ∧ Drawn0 w w' := by
 have H : (if a0 ≥ a1 then (some (decide (a0 ≤ a2))) else (some false)) = some r := h
 clear h
 by_cases c4 : a0 ≥ a1
 ·rw [if_pos c4] at H
  have c4b0 : decide (a1 ≤ a0) = true := decide_eq_true c4
  clear c4
  obtain rfl := Option.some.inj H
  go_enter Try.func59, Try.ntmps59
  go_wp2
  go_ret
  exact ⟨by first | rfl | (simp; done) | (simp [*]; done), by repeat (first | exact Drawn0.refl _ | apply Drawn0.step)⟩
 ·rw [if_neg c4] at H
  have c4b0 : decide (a1 ≤ a0) = false := decide_eq_false c4
  clear c4
  obtain rfl := Option.some.inj H
  go_enter Try.func59, Try.ntmps59
  go_wp2
  go_ret
  exact ⟨by first | rfl | (simp; done) | (simp [*]; done), by repeat (first | exact Drawn0.refl _ | apply Drawn0.step)⟩

open Go.Proofs.Ytkifenbcepicjaa.Cp
/-! ### impl_IsMemory: function 68 -/
def impl_IsMemory.l0 : Nat → List (List Int) → Int → Int → List (List Int) → Option (Bool)
 | 0, _, _, _, _ => none
 | k + 1, x6, x7, x8, x150000 => if x8 < x7 then (if 0 ≤ x8 then (if x8 < (x6.length : Int) then ((impl_within.f ((rd_L1 x6 x8).length : Int) 1 64).bind fun t151 => (if t151 = true then (impl_IsMemory.l0 k x6 x7 (wrap64 (x8 + 1)) x150000) else (some false))) else (none)) else (none)) else (some (decide ((x150000.length : Int) ≤ 16)))
def impl_IsMemory.f (k : Nat) (l0_0 : List (List Int)) : Option (Bool) := impl_IsMemory.l0 k l0_0 (l0_0.length : Int) 0 l0_0
theorem impl_IsMemory.mono_l : ∀ k, (∀ y0 y1 y2 y3, LeO (impl_IsMemory.l0 k y0 y1 y2 y3) (impl_IsMemory.l0 (k + 1) y0 y1 y2 y3))
 | 0 => fun _ _ _ _ r h => by simp [impl_IsMemory.l0] at h
 | k + 1 => by
  have ih0 := impl_IsMemory.mono_l k
  ·intro y0 y1 y2 y3
   unfold impl_IsMemory.l0
   repeat' first
   | (with_reducible exact ih0 _ _ _ _)
   | (with_reducible exact LeO.refl _)
   | (with_reducible exact LeO.none _)
   | (with_reducible refine LeO.ite ?_ ?_)
   | (with_reducible refine LeO.bind ?_ (fun _ => ?_))
   | exact ih0 _ _ _ _
   | exact LeO.none _
   | refine LeO.ite ?_ ?_
   | refine LeO.bind ?_ (fun _ => ?_)
theorem impl_IsMemory.mono : ∀ a0 k, LeO (impl_IsMemory.f k a0) (impl_IsMemory.f (k + 1) a0) := by
 intro a0 k
 have ih0 := impl_IsMemory.mono_l k
 unfold impl_IsMemory.f
 repeat' first
   | (with_reducible exact ih0 _ _ _ _)
   | (with_reducible exact LeO.refl _)
   | (with_reducible exact LeO.none _)
   | (with_reducible refine LeO.ite ?_ ?_)
   | (with_reducible refine LeO.bind ?_ (fun _ => ?_))
   | exact ih0 _ _ _ _
   | exact LeO.none _
   | refine LeO.ite ?_ ?_
   | refine LeO.bind ?_ (fun _ => ?_)
set_option maxHeartbeats 8000000 in
set_option maxRecDepth 100000 in
theorem impl_IsMemory.calls (k : Nat) (A0_0 : Option Addr) (c0_0 : Nat) (l0_0 : List (List Int)) (r : Bool) (w : World) (hr0_0 : Kd.C (Kd.slice 5 (Kd.int .u8)) w A0_0 l0_0.length l0_0) (hc0_0 : l0_0.length ≤ c0_0) (h : impl_IsMemory.f k l0_0 = some r) :
  Calls Try.prog 68 #[.agg #[.slice A0_0 l0_0.length c0_0]] w fun e w' => e = .returned (.bool r) ∧ Below w.heap.size w w' := by
 have hu32 := Try.underlying32
 have HR0_0 := Aside0.mk hr0_0
 have HC0_0 := Aside0.mk hc0_0
 clear hr0_0 hc0_0
 have HB := Aside0.mk (Below.refl w.heap.size w)
 have H : (impl_IsMemory.l0 k l0_0 (l0_0.length : Int) 0 l0_0) = some r := h
 clear h
 have H' := Aside0.mk H
 clear H
 go_enter Try.func68, Try.ntmps68
 go_wp2_with (first | ((with_reducible refine gate_dst (N := 1) rfl ?_); refine box_event ?hg (N := 1) ?hd (cs := #[.slice A0_0 l0_0.length c0_0]) (t := 32) ?hr ?_; (case hd => rfl); (case hg => rfl); (case hr => first | (go_simp; done) | (go_simp; rfl)); intro gb149 hg w2 hbox hb; have BK149 := Aside0.mk (hbox); have GW149 := zge HB hg; have GE149 := zge HB hg; replace HB := zhs HB hb; clear hb hbox hg; have hcz3_0 := zc0 BK149 0 rfl; have hfz3_0 := blk_frozen BK149.out 0))
 go_loopg [8] k (fun kq v8 w' => ∃ (x8_1 : Int), v8 = .int .i64 x8_1 ∧ Aside0 (impl_IsMemory.l0 kq l0_0 (l0_0.length : Int) x8_1 l0_0 = some r) ∧ Aside0 (kq ≤ k) ∧ Aside0 (w'.heap[gb149]? = some (.cells #[(.slice A0_0 l0_0.length c0_0)] 32 (0, 0))) ∧ Aside0 (Below w.heap.size w w'))
 case atStart => exact ⟨(0), (by first | rfl | (simp; done) | (simp [*]; done)), H', ⟨Nat.le_refl _⟩, ⟨zk0 BK149⟩, ⟨by repeat (first | exact zh0 HB | refine below_set ?_ GE149.out)⟩⟩
 case round =>
  clear H'
  try clear p2
  try clear hcz3_0
  try clear hfz3_0
  obtain ⟨x8_1, rfl, HA, HK1, BK149, HB⟩ := hrel
  cases gk with
  | zero => exact absurd HA.out (by simp [impl_IsMemory.l0])
  | succ k1 =>
   have H := HA.out
   clear HA
   simp only [impl_IsMemory.l0] at H
   by_cases c4 : x8_1 < (l0_0.length : Int)
   ·rw [if_pos c4] at H
    have c4b0 : decide (x8_1 < (l0_0.length : Int)) = true := decide_eq_true c4
    clear c4
    by_cases c5 : 0 ≤ x8_1
    ·rw [if_pos c5] at H
     have c5b0 : decide (0 ≤ x8_1) = true := decide_eq_true c5
     clear c5
     by_cases c6 : x8_1 < (l0_0.length : Int)
     ·rw [if_pos c6] at H
      have c6b0 : decide (x8_1 < (l0_0.length : Int)) = true := decide_eq_true c6
      clear c6
      replace H := Option.bind_eq_some_iff.mp H
      obtain ⟨t151, A70, H⟩ := H
      replace H : (if t151 = true then (impl_IsMemory.l0 k1 l0_0 (l0_0.length : Int) (wrap64 (x8_1 + 1)) l0_0) else (some false)) = some r := H
      have A7 := Aside0.mk A70
      clear A70
      by_cases c8 : t151 = true
      ·subst c8
       have H1 : (impl_IsMemory.l0 k1 l0_0 (l0_0.length : Int) (wrap64 (x8_1 + 1)) l0_0) = some r := by rw [if_pos rfl] at H; exact H
       clear H
       have H := H1
       clear H1
       have H' := Aside0.mk H
       clear H
       have p150 : 0 ≤ (x8_1 : Int) := of_decide_eq_true (by first | (with_reducible assumption) | assumption)
       have q150 : x8_1 < (l0_0.length : Int) := of_decide_eq_true (by first | (with_reducible assumption) | assumption)
       obtain ⟨ad150, A150_0, c150_0, e150, hx150_0, hl150_0, hi150_0⟩ := at_L1 HR0_0.out x8_1 p150 q150
       cases e150
       replace hx150_0 := (HB.out.cell (World.block_lt_of_cell? w _ hx150_0)).trans hx150_0
       have HR150_0 := Aside0.mk hi150_0
       have HC150_0 := Aside0.mk hl150_0
       clear hi150_0 hl150_0
       replace p150 := eq_true p150
       replace q150 := eq_true q150
       go_wp2_with (first | ((with_reducible refine gate_callee (f := 59) rfl ?_); refine goesL_ (some 14) rfl rfl Try.func59 (by kernel_rfl) rfl #[.int .i64 ((rd_L1 l0_0 x8_1).length : Int), .int .i64 1, .int .i64 64] rfl (by (try simp only [zq1, zq2, zq3]); first | done | rfl | (simp only [List.length_drop, List.length_take]; rfl)) ?_; (with_reducible refine (impl_within.calls ((rd_L1 l0_0 x8_1).length : Int) 1 64 true _ A7.out).mono ?_); rintro e w' ⟨rfl, ⟨nd, rfl⟩⟩; refine ⟨_, rfl, ?_⟩))
       go_roundg k1
       case measure => have := HK1.out; omega
       case rel => exact ⟨(wrap64 (x8_1 + 1)), (by first | rfl | (simp; done) | (simp [*]; done)), H', ⟨by have := HK1.out; omega⟩, ⟨zk0 BK149⟩, ⟨by repeat (first | exact zh0 HB | refine below_set ?_ GE149.out)⟩⟩
      ·replace c8 := Bool.eq_false_iff.mpr c8
       subst c8
       have H1 : (some false) = some r := by rw [if_neg (show ¬ (false = true) by decide)] at H; exact H
       clear H
       have H := H1
       clear H1
       obtain rfl := Option.some.inj H
       have p150 : 0 ≤ (x8_1 : Int) := of_decide_eq_true (by first | (with_reducible assumption) | assumption)
       have q150 : x8_1 < (l0_0.length : Int) := of_decide_eq_true (by first | (with_reducible assumption) | assumption)
       obtain ⟨ad150, A150_0, c150_0, e150, hx150_0, hl150_0, hi150_0⟩ := at_L1 HR0_0.out x8_1 p150 q150
       cases e150
       replace hx150_0 := (HB.out.cell (World.block_lt_of_cell? w _ hx150_0)).trans hx150_0
       have HR150_0 := Aside0.mk hi150_0
       have HC150_0 := Aside0.mk hl150_0
       clear hi150_0 hl150_0
       replace p150 := eq_true p150
       replace q150 := eq_true q150
       go_wp2_with (first | ((with_reducible refine gate_callee (f := 59) rfl ?_); refine goesL_ (some 14) rfl rfl Try.func59 (by kernel_rfl) rfl #[.int .i64 ((rd_L1 l0_0 x8_1).length : Int), .int .i64 1, .int .i64 64] rfl (by (try simp only [zq1, zq2, zq3]); first | done | rfl | (simp only [List.length_drop, List.length_take]; rfl)) ?_; (with_reducible refine (impl_within.calls ((rd_L1 l0_0 x8_1).length : Int) 1 64 false _ A7.out).mono ?_); rintro e w' ⟨rfl, ⟨nd, rfl⟩⟩; refine ⟨_, rfl, ?_⟩))
       go_ret
       exact ⟨by first | rfl | (simp <;> rfl) | (simp [*] <;> rfl), by repeat (first | exact zh0 HB | refine below_set ?_ GE149.out)⟩
     ·rw [if_neg c6] at H
      exact absurd H (by simp)
    ·rw [if_neg c5] at H
     exact absurd H (by simp)
   ·rw [if_neg c4] at H
    have c4b0 : decide (x8_1 < (l0_0.length : Int)) = false := decide_eq_false c4
    clear c4
    obtain rfl := Option.some.inj H
    have hcz9_0 := zc0 BK149 0 rfl
    have hfz9_0 := blk_frozen BK149.out 0
    go_wp2
    go_ret
    exact ⟨by first | rfl | (simp <;> rfl) | (simp [*] <;> rfl), by repeat (first | exact zh0 HB | refine below_set ?_ GE149.out)⟩

open Go.Proofs.Ytkifenbcepicjaa.Cp
/-! ### impl_Memory_hasArray: function 87 -/
def impl_Memory_hasArray.f (l0_0 : List (List Int)) (a1 : Int) : Option (Bool) := (impl_within.f a1 0 (wrap64 ((l0_0.length : Int) - 1))).bind fun t153 => (some t153)
set_option maxHeartbeats 8000000 in
set_option maxRecDepth 100000 in
theorem impl_Memory_hasArray.calls (A0_0 : Option Addr) (c0_0 : Nat) (l0_0 : List (List Int)) (a1 : Int) (r : Bool) (w : World) (hr0_0 : Kd.C (Kd.slice 5 (Kd.int .u8)) w A0_0 l0_0.length l0_0) (hc0_0 : l0_0.length ≤ c0_0) (h : impl_Memory_hasArray.f l0_0 a1 = some r) :
  Calls Try.prog 87 #[.agg #[.slice A0_0 l0_0.length c0_0], .int .i64 a1] w fun e w' => e = .returned (.bool r) ∧ Below w.heap.size w w' := by
 have hu32 := Try.underlying32
 have HR0_0 := Aside0.mk hr0_0
 have HC0_0 := Aside0.mk hc0_0
 clear hr0_0 hc0_0
 have HB := Aside0.mk (Below.refl w.heap.size w)
 have H : ((impl_within.f a1 0 (wrap64 ((l0_0.length : Int) - 1))).bind fun t153 => (some t153)) = some r := h
 clear h
 replace H := Option.bind_eq_some_iff.mp H
 obtain ⟨t153, A30, H⟩ := H
 replace H : (some t153) = some r := H
 have A3 := Aside0.mk A30
 clear A30
 obtain rfl := Option.some.inj H
 go_enter Try.func87, Try.ntmps87
 go_wp2_with (first | ((with_reducible refine gate_dst (N := 2) rfl ?_); refine box_event ?hg (N := 2) ?hd (cs := #[.slice A0_0 l0_0.length c0_0]) (t := 32) ?hr ?_; (case hd => rfl); (case hg => rfl); (case hr => first | (go_simp; done) | (go_simp; rfl)); intro gb152 hg w4 hbox hb; have BK152 := Aside0.mk (hbox); have GW152 := zge HB hg; have GE152 := zge HB hg; replace HB := zhs HB hb; clear hb hbox hg; have hcz5_0 := zc0 BK152 0 rfl; have hfz5_0 := blk_frozen BK152.out 0) | ((with_reducible refine gate_callee (f := 59) rfl ?_); refine goesL_ (some 10) rfl rfl Try.func59 (by kernel_rfl) rfl #[.int .i64 a1, .int .i64 0, .int .i64 (wrap64 ((l0_0.length : Int) - 1))] rfl (by (try simp only [zq1, zq2, zq3]); first | done | rfl | (simp only [List.length_drop, List.length_take]; rfl)) ?_; (with_reducible refine (impl_within.calls a1 0 (wrap64 ((l0_0.length : Int) - 1)) t153 _ A3.out).mono ?_); rintro e w' ⟨rfl, ⟨nd, rfl⟩⟩; refine ⟨_, rfl, ?_⟩))
 go_ret
 exact ⟨by first | rfl | (simp <;> rfl) | (simp [*] <;> rfl), by repeat (first | exact zh0 HB | refine below_set ?_ GE152.out)⟩

end Go.Proofs.Ytkifenbcepicjaa.PFnExactDropEntry
