/- What is proved here: each Go function that is named below answers, and leaves memory, as the theorem of its name says; no condition beyond those that each theorem states. Laid by this session's own program (wip/driver.py) over the kit's print. -/
import Derived.Test.YtkifenbcepicjaaPFnExactEntriesBetweenx0
import Derived.Test.YtkifenbcepicjaaPFnExactEntriesBetweenx2
import Derived.Test.YtkifenbcepicjaaPFnExactEntriesBetweenx3
namespace Go.Proofs.Ytkifenbcepicjaa.PFnExactEntriesBetween
open Go.RowKit Go.Proofs.YtkifenbcepicjaaW.PrintWords Go.Proofs.YtkifenbcepicjaaW.PrintLast Go.Proofs.YtkifenbcepicjaaW.PrintMore
attribute [local go_sem] max2_int min2_int max_two min_two max_three min_three max_four min_four   -- for this text's walks alone
set_option linter.unusedVariables false
set_option linter.unusedSimpArgs false

/-! ### impl_isTable: function 40 (by hand) -/
def impl_isTable.fin (k : Nat) (m : List (List Int)) (n : Nat) : Option Bool := (impl_IsMemory.f k m).bind fun b => some (b && decide ((n : Int) ≤ 12))
def impl_isTable.cmp : Option Ky.En → Ky.En → Option Bool
  | none, _ => some true
  | some p, x => (impl_compareKeys.f p.key x.key).bind fun c => some (decide (c < 0))
def impl_isTable.go (k : Nat) (m : List (List Int)) (n : Nat) : Option Ky.En → List Ky.En → Option Bool
  | _, [] => impl_isTable.fin k m n
  | p, x :: xs => (impl_areOn.f k m [(⟨x.a, x.s, x.l, x.c⟩ : S54)]).bind fun b => if b = true then (impl_isTable.cmp p x).bind fun t => if t = true then impl_isTable.go k m n (some x) xs else some false else some false
def impl_isTable.f (k : Nat) (m : List (List Int)) (t : List Ky.En) : Option Bool := if t.length ≤ 1048576 then impl_isTable.go k m t.length none t else none
theorem impl_isTable.mono_fin (k : Nat) (m : List (List Int)) (n : Nat) : LeO (impl_isTable.fin k m n) (impl_isTable.fin (k + 1) m n) := by
  unfold impl_isTable.fin
  exact LeO.bind (by apply impl_IsMemory.mono) (fun _ => LeO.refl _)
theorem impl_isTable.mono_go (k : Nat) (m : List (List Int)) (n : Nat) : ∀ (xs : List Ky.En) (p : Option Ky.En), LeO (impl_isTable.go k m n p xs) (impl_isTable.go (k + 1) m n p xs)
  | [], p => by
    unfold impl_isTable.go
    exact impl_isTable.mono_fin k m n
  | x :: xs, p => by
    unfold impl_isTable.go
    exact LeO.bind (by apply impl_areOn.mono) (fun _ => LeO.ite (LeO.bind (LeO.refl _) (fun _ => LeO.ite (impl_isTable.mono_go k m n xs _) (LeO.refl _))) (LeO.refl _))
theorem impl_isTable.mono : ∀ a0 a1 k, LeO (impl_isTable.f k a0 a1) (impl_isTable.f (k + 1) a0 a1) := by
  intro a0 a1 k
  unfold impl_isTable.f
  exact LeO.ite (impl_isTable.mono_go k _ _ _ _) (LeO.refl _)
set_option maxHeartbeats 4000000 in
set_option maxRecDepth 100000 in
theorem impl_isTable.calls (k : Nat) (A0_0 : Option Addr) (c0_0 : Nat) (l0_0 : List (List Int)) (A1 : Option Addr) (c1 : Nat) (l1 : List Ky.En) (r : Bool) (w : World) (hr0_0 : Kd.C (Kd.slice 5 (Kd.int .u8)) w A0_0 l0_0.length l0_0) (hc0_0 : l0_0.length ≤ c0_0) (hr1 : Kd.C Ky.ke w A1 l1.length l1) (hc1 : l1.length ≤ c1) (h : impl_isTable.f k l0_0 l1 = some r) :
    Calls Try.prog 40 #[.agg #[.slice A0_0 l0_0.length c0_0], .slice A1 l1.length c1] w fun e w' => e = .returned (.bool r) ∧ Below w.heap.size w w' := by
  have HR0 := Lib.hid hr0_0
  have HC0 := Lib.hid hc0_0
  have HR1 := Lib.hid hr1
  clear hr0_0 hc0_0 hr1 hc1
  unfold impl_isTable.f at h
  obtain ⟨n, hn⟩ : ∃ n, n = l1.length := ⟨_, rfl⟩
  rw [← hn] at h ⊢
  obtain ⟨hle, h⟩ := Ky.of_condO h
  have HN := Lib.hid hn
  have HM := Lib.hid hle
  have HH := Lib.hid h
  clear hn h hle
  obtain ⟨W0, hW⟩ : ∃ W, W = w.alloc (.cells #[.slice A0_0 l0_0.length c0_0] 32) := ⟨_, rfl⟩
  have HI : Hid (Lv.Inv w W0 [Lv.boxF (w.heap.size) #[.slice A0_0 l0_0.length c0_0] 32]) := by
    subst hW
    have := (Lv.Inv.refl w).box #[.slice A0_0 l0_0.length c0_0] 32
    exact Lib.hid (by simpa using this)
  go_enter Try.func40, Try.ntmps40
  go_upto_region 1 with (fail)
  rw [← hW]
  clear hW
  go_wp2
  go_loopg [5, 6, 9] n (fun gg _ _ s9 wr => ∃ (i : Nat), s9 = .int .i64 i ∧ Hid (i ≤ n ∧ n - i ≤ gg) ∧ Hid (impl_isTable.go k l0_0 n (Ky.prev l1 i) (l1.drop i) = some r) ∧ Hid (Lv.Inv w wr [Lv.boxF (w.heap.size) #[.slice A0_0 l0_0.length c0_0] 32]))
  case atStart => exact ⟨0, rfl, Lib.hid (by omega), HH, HI⟩
  case round =>
    clear HI HH
    obtain ⟨i, rfl, HK, HG, HI⟩ := hrel
    by_cases hlt : i < n
    · obtain ⟨b, o, hA, hrow⟩ := Ky.row_entry HR1.out (by have := HN.out; omega)
      obtain ⟨x, hx⟩ : ∃ x, l1[i]? = some x := ⟨_, List.getElem?_eq_getElem (by have := HN.out; omega)⟩
      have HKx := Lib.hid (hrow i x hx).1
      have HCx := Lib.hid (hrow i x hx).2
      have HPV := Lib.hid (Ky.prev_succ hx)
      have hg := HG.out
      obtain ⟨hxl, hxe⟩ := List.getElem?_eq_some_iff.1 hx
      rw [List.drop_eq_getElem_cons hxl, hxe, impl_isTable.go] at hg
      clear hx hxl hxe HG
      have k0 : (0 : Int) ≤ (i : Int) := by omega
      have k1 : (i : Int) < (n : Int) := by omega
      have k3 : ((n : Int)).toNat ≤ 1048576 := by have := HM.out; omega
      obtain ⟨t, ht, hg⟩ := Option.bind_eq_some_iff.mp hg
      have HT := Lib.hid ht
      clear ht
      cases t with
      | false =>
        rw [if_neg (by decide)] at hg
        obtain rfl := Option.some.inj hg
        clear hg hrow
        subst hA
        go_upto_region 3 with (fail)
        refine Fl.startL [.take 0, .take 1, .take 2, .one 3, .take 4, .one 5] (by decide) HI.out ?_
        refine Fl.take (some 11) (v := .int .i64 (i : Int)) rfl rfl (Or.inl ⟨by rfl, fun _ _ => by rfl⟩) ?_
        simp only [Act.put, Fl.z1, Fl.z2, Fl.z3]
        refine Fl.take (some 12) (v := .pointer (some ⟨b, o + i * 20, none⟩)) rfl rfl (Or.inl ⟨by rfl, fun _ _ => by first | rfl | (go_simp; done) | (go_simp; rfl) | (go_simp; omega)⟩) ?_
        simp only [Act.put, Fl.z1, Fl.z2, Fl.z3]
        refine Fl.take (some 13) (v := .agg (Ky.ec x)) rfl rfl (yieldsIf_load_mid (by rfl) 66 _ rfl b (o + i * 20) rfl (Ky.ec x).toList _ (fun W1 hW1 => Ky.range_below HCx.out hW1.bel) Try.underlying66 rfl (by rw [Array.length_toList]; exact Ky.hEk HKx.out)) ?_
        simp only [Act.put, Fl.z1, Fl.z2, Fl.z3]
        refine Fl.var (N := 6) (cs := Ky.ec Ky.En0) (t := 66) ⟨_, rfl, rfl, fun _ => rfl, fun e w => by go_simp; rfl⟩ (fun be => ?_)
        simp only [Act.put, Fl.z1, Fl.z2, Fl.z3]
        refine Fl.take (some 5) (v := .int .i64 (i : Int)) rfl rfl (Or.inl ⟨by rfl, fun _ _ => by rfl⟩) ?_
        simp only [Act.put, Fl.z1, Fl.z2, Fl.z3]
        refine Fl.store 0 (Ky.ec x) rfl rfl rfl rfl _ _ _ rfl rfl rfl (by rfl) (by rw [Ky.ec_size HKx.out, Ky.ec_size Ky.key_0]) (Ky.hEk HKx.out) (Ky.ec_one x) ?_
        refine Fl.stop (fun W hi => ?_)
        replace HI := Lib.hid hi
        clear hi
        go_upto_region 4 with (fail)
        refine Fl.start [([],[]),([],[]),([1],[1]),([2],[2]),([0,3],[0,3]),([4],[4]),([5,4],[5]),([6],[6]),([7,6],[6,7]),([8,6,6],[6,8]),([9],[9]),([9],[9]),([11,9],[9,11]),([10,12,9],[9,10,12]),([13,9],[9,13]),([14,9],[9,14]),([9],[9]),([16,9],[9,16]),([15,17,9,9],[9,15,17]),([18,9],[9,18]),([9,19,6],[6,9,19]),([6,20],[6,20])] [] 23 [.take 0, .take 1, .take 2, .one 3, .one 4, .take 5, .take 6, .take 7, .take 8, .take 9, .take 10, .take 11, .take 12, .take 13, .take 14, .take 15, .take 16, .take 17, .take 18, .take 19, .take 20, .take 21] [] (by kernel_rfl) (by kernel_rfl) (by decide) (by decide) (by kernel_rfl) (by kernel_rfl) Fl.mk0 HI.out ?_
        refine Fl.take (some 14) (v := .agg #[.slice A0_0 l0_0.length c0_0]) rfl rfl (Fl.ld 1 rfl (by rfl) _ _ rfl rfl Try.underlying32 rfl (by kernel_rfl)) ?_
        simp only [Act.put, Fl.z1, Fl.z2, Fl.z3]
        refine Fl.take (some 15) (v := .pointer (some ⟨be, 16, none⟩)) rfl rfl (Or.inl ⟨by rfl, fun _ _ => by first | rfl | (go_simp; done) | (go_simp; rfl) | (go_simp; omega)⟩) ?_
        simp only [Act.put, Fl.z1, Fl.z2, Fl.z3]
        refine Fl.take (some 16) (v := .agg (Ky.wc x)) rfl rfl (Fl.ldP 0 16 (Ky.wc x) rfl (by rfl) _ _ rfl rfl (Ky.ec_win HKx.out) Try.underlying54 rfl (by kernel_rfl)) ?_
        simp only [Act.put, Fl.z1, Fl.z2, Fl.z3]
        refine Fl.lit (N := 17) (cs := Ky.wc x) (t := 54) (n := 1) rfl rfl (by rfl) (fun w => by first | (go_simp; done) | (go_simp; rfl)) (fun b1 => ?_)
        simp only [Act.put, Fl.z1, Fl.z2, Fl.z3]
        refine Fl.call (some 18) Try.func58 (by kernel_rfl) rfl #[.agg #[.slice A0_0 l0_0.length c0_0], .slice (some ⟨b1, 0, none⟩) 1 1] rfl rfl rfl (by rfl) rfl (fun E W hE hi => ?_)
        refine (impl_areOn.calls k _ _ l0_0 _ _ [(⟨x.a, x.s, x.l, x.c⟩ : S54)] false W (Kd.C_below HR0.out hi.bel) HC0.out (Fl.c_one (hi.blk 0 rfl) (k54_mk _ ⟨x.a, x.s, x.l, x.c⟩)) (Nat.le_refl _) HT.out).mono ?_
        rintro e W' ⟨rfl, hb⟩
        refine Fl.keep (v := .bool false) hi hb ?_
        clear hi hb hE
        simp only [Act.put, Fl.z1, Fl.z2, Fl.z3]
        refine Fl.take (some 19) (v := .bool true) rfl rfl (Or.inl ⟨by rfl, fun _ _ => by rfl⟩) ?_
        simp only [Act.put, Fl.z1, Fl.z2, Fl.z3]
        refine Fl.take (some 20) (v := .bool true) rfl rfl (Or.inl ⟨by rfl, fun _ _ => by rfl⟩) ?_
        simp only [Act.put, Fl.z1, Fl.z2, Fl.z3]
        refine Fl.take (some 21) (v := undef) rfl rfl (Or.inr ⟨by rfl, rfl⟩) ?_
        simp only [Act.put, Fl.z1, Fl.z2, Fl.z3]
        refine Fl.take (some 22) (v := undef) rfl rfl (Or.inr ⟨by rfl, rfl⟩) ?_
        simp only [Act.put, Fl.z1, Fl.z2, Fl.z3]
        refine Fl.take (some 23) (v := undef) rfl rfl (Or.inr ⟨by rfl, rfl⟩) ?_
        simp only [Act.put, Fl.z1, Fl.z2, Fl.z3]
        refine Fl.take (some 24) (v := undef) rfl rfl (Or.inr ⟨by rfl, rfl⟩) ?_
        simp only [Act.put, Fl.z1, Fl.z2, Fl.z3]
        refine Fl.take (some 25) (v := undef) rfl rfl (Or.inr ⟨by rfl, rfl⟩) ?_
        simp only [Act.put, Fl.z1, Fl.z2, Fl.z3]
        refine Fl.take (some 26) (v := undef) rfl rfl (Or.inr ⟨by rfl, rfl⟩) ?_
        simp only [Act.put, Fl.z1, Fl.z2, Fl.z3]
        refine Fl.take (some 27) (v := undef) rfl rfl (Or.inr ⟨by rfl, rfl⟩) ?_
        simp only [Act.put, Fl.z1, Fl.z2, Fl.z3]
        refine Fl.take (some 28) (v := undef) rfl rfl (Or.inr ⟨by rfl, rfl⟩) ?_
        simp only [Act.put, Fl.z1, Fl.z2, Fl.z3]
        refine Fl.take (some 29) (v := undef) rfl rfl (Or.inr ⟨by rfl, rfl⟩) ?_
        simp only [Act.put, Fl.z1, Fl.z2, Fl.z3]
        refine Fl.take (some 30) (v := undef) rfl rfl (Or.inr ⟨by rfl, rfl⟩) ?_
        simp only [Act.put, Fl.z1, Fl.z2, Fl.z3]
        refine Fl.take (some 31) (v := undef) rfl rfl (Or.inr ⟨by rfl, rfl⟩) ?_
        simp only [Act.put, Fl.z1, Fl.z2, Fl.z3]
        refine Fl.take (some 32) (v := undef) rfl rfl (Or.inr ⟨by rfl, rfl⟩) ?_
        simp only [Act.put, Fl.z1, Fl.z2, Fl.z3]
        refine Fl.take (some 33) (v := undef) rfl rfl (Or.inr ⟨by rfl, rfl⟩) ?_
        simp only [Act.put, Fl.z1, Fl.z2, Fl.z3]
        refine Fl.take (some 34) (v := undef) rfl rfl (Or.inr ⟨by rfl, rfl⟩) ?_
        simp only [Act.put, Fl.z1, Fl.z2, Fl.z3]
        refine Fl.take (some 35) (v := .bool true) rfl rfl (Or.inl ⟨by rfl, fun _ _ => by rfl⟩) ?_
        simp only [Act.put, Fl.z1, Fl.z2, Fl.z3]
        refine Fl.fin0 ?_
        refine Fl.stopN (fun W hi => ?_)
        have HI2 := Lib.hid hi
        clear hi
        go_wp2
        go_ret
        exact ⟨rfl, HI2.out.bel⟩
      | true =>
        rw [if_pos rfl] at hg
        obtain ⟨t, ht, hg⟩ := Option.bind_eq_some_iff.mp hg
        by_cases hi0 : i = 0
        · subst hi0
          obtain rfl := Option.some.inj (show some true = some t from ht)
          rw [if_pos rfl] at hg
          have HG := Lib.hid (show impl_isTable.go k l0_0 n (Ky.prev l1 (0 + 1)) (l1.drop (0 + 1)) = some r by rw [HPV.out]; exact hg)
          clear hg hrow ht
          subst hA
          go_upto_region 3 with (fail)
          refine Fl.startL [.take 0, .take 1, .take 2, .one 3, .take 4, .one 5] (by decide) HI.out ?_
          refine Fl.take (some 11) (v := .int .i64 0) rfl rfl (Or.inl ⟨by rfl, fun _ _ => by rfl⟩) ?_
          simp only [Act.put, Fl.z1, Fl.z2, Fl.z3]
          refine Fl.take (some 12) (v := .pointer (some ⟨b, o, none⟩)) rfl rfl (Or.inl ⟨by rfl, fun _ _ => by first | rfl | (go_simp; done) | (go_simp; rfl) | (go_simp; omega)⟩) ?_
          simp only [Act.put, Fl.z1, Fl.z2, Fl.z3]
          refine Fl.take (some 13) (v := .agg (Ky.ec x)) rfl rfl (yieldsIf_load_mid (by rfl) 66 _ rfl b (o) rfl (Ky.ec x).toList _ (fun W1 hW1 => Ky.range_below HCx.out hW1.bel) Try.underlying66 rfl (by rw [Array.length_toList]; exact Ky.hEk HKx.out)) ?_
          simp only [Act.put, Fl.z1, Fl.z2, Fl.z3]
          refine Fl.var (N := 6) (cs := Ky.ec Ky.En0) (t := 66) ⟨_, rfl, rfl, fun _ => rfl, fun e w => by go_simp; rfl⟩ (fun be => ?_)
          simp only [Act.put, Fl.z1, Fl.z2, Fl.z3]
          refine Fl.take (some 5) (v := .int .i64 0) rfl rfl (Or.inl ⟨by rfl, fun _ _ => by rfl⟩) ?_
          simp only [Act.put, Fl.z1, Fl.z2, Fl.z3]
          refine Fl.store 0 (Ky.ec x) rfl rfl rfl rfl _ _ _ rfl rfl rfl (by rfl) (by rw [Ky.ec_size HKx.out, Ky.ec_size Ky.key_0]) (Ky.hEk HKx.out) (Ky.ec_one x) ?_
          refine Fl.stop (fun W hi => ?_)
          replace HI := Lib.hid hi
          clear hi
          go_upto_region 4 with (fail)
          refine Fl.start [([],[]),([],[]),([1],[1]),([2],[2]),([0,3],[0,3]),([4],[4]),([5,4],[5]),([6],[6]),([7,6],[6,7]),([8,6,6],[6,8]),([9],[9]),([9],[9]),([11,9],[9,11]),([10,12,9],[9,10,12]),([13,9],[9,13]),([14,9],[9,14]),([9],[9]),([16,9],[9,16]),([15,17,9,9],[9,15,17]),([18,9],[9,18]),([9,19,6],[6,9,19]),([6,20],[6,20])] [] 23 [.take 0, .take 1, .take 2, .one 3, .one 4, .take 5, .take 6, .take 7, .take 8, .take 9, .take 10, .take 11, .take 12, .take 13, .take 14, .take 15, .take 16, .take 17, .take 18, .take 19, .take 20, .take 21] [] (by kernel_rfl) (by kernel_rfl) (by decide) (by decide) (by kernel_rfl) (by kernel_rfl) Fl.mk0 HI.out ?_
          refine Fl.take (some 14) (v := .agg #[.slice A0_0 l0_0.length c0_0]) rfl rfl (Fl.ld 1 rfl (by rfl) _ _ rfl rfl Try.underlying32 rfl (by kernel_rfl)) ?_
          simp only [Act.put, Fl.z1, Fl.z2, Fl.z3]
          refine Fl.take (some 15) (v := .pointer (some ⟨be, 16, none⟩)) rfl rfl (Or.inl ⟨by rfl, fun _ _ => by first | rfl | (go_simp; done) | (go_simp; rfl) | (go_simp; omega)⟩) ?_
          simp only [Act.put, Fl.z1, Fl.z2, Fl.z3]
          refine Fl.take (some 16) (v := .agg (Ky.wc x)) rfl rfl (Fl.ldP 0 16 (Ky.wc x) rfl (by rfl) _ _ rfl rfl (Ky.ec_win HKx.out) Try.underlying54 rfl (by kernel_rfl)) ?_
          simp only [Act.put, Fl.z1, Fl.z2, Fl.z3]
          refine Fl.lit (N := 17) (cs := Ky.wc x) (t := 54) (n := 1) rfl rfl (by rfl) (fun w => by first | (go_simp; done) | (go_simp; rfl)) (fun b1 => ?_)
          simp only [Act.put, Fl.z1, Fl.z2, Fl.z3]
          refine Fl.call (some 18) Try.func58 (by kernel_rfl) rfl #[.agg #[.slice A0_0 l0_0.length c0_0], .slice (some ⟨b1, 0, none⟩) 1 1] rfl rfl rfl (by rfl) rfl (fun E W hE hi => ?_)
          refine (impl_areOn.calls k _ _ l0_0 _ _ [(⟨x.a, x.s, x.l, x.c⟩ : S54)] true W (Kd.C_below HR0.out hi.bel) HC0.out (Fl.c_one (hi.blk 0 rfl) (k54_mk _ ⟨x.a, x.s, x.l, x.c⟩)) (Nat.le_refl _) HT.out).mono ?_
          rintro e W' ⟨rfl, hb⟩
          refine Fl.keep (v := .bool true) hi hb ?_
          clear hi hb hE
          simp only [Act.put, Fl.z1, Fl.z2, Fl.z3]
          refine Fl.take (some 19) (v := .bool false) rfl rfl (Or.inl ⟨by rfl, fun _ _ => by rfl⟩) ?_
          simp only [Act.put, Fl.z1, Fl.z2, Fl.z3]
          refine Fl.take (some 20) (v := .bool false) rfl rfl (Or.inl ⟨by rfl, fun _ _ => by rfl⟩) ?_
          simp only [Act.put, Fl.z1, Fl.z2, Fl.z3]
          refine Fl.take (some 21) (v := .int .i64 0) rfl rfl (Or.inl ⟨by rfl, fun _ _ => by rfl⟩) ?_
          simp only [Act.put, Fl.z1, Fl.z2, Fl.z3]
          refine Fl.take (some 22) (v := .bool false) rfl rfl (Or.inl ⟨by rfl, fun _ _ => by first | rfl | (go_simp; done) | (go_simp; rfl) | (go_simp; omega)⟩) ?_
          simp only [Act.put, Fl.z1, Fl.z2, Fl.z3]
          refine Fl.take (some 23) (v := .bool false) rfl rfl (Or.inl ⟨by rfl, fun _ _ => by rfl⟩) ?_
          simp only [Act.put, Fl.z1, Fl.z2, Fl.z3]
          refine Fl.take (some 24) (v := undef) rfl rfl (Or.inr ⟨by rfl, rfl⟩) ?_
          simp only [Act.put, Fl.z1, Fl.z2, Fl.z3]
          refine Fl.take (some 25) (v := undef) rfl rfl (Or.inr ⟨by rfl, rfl⟩) ?_
          simp only [Act.put, Fl.z1, Fl.z2, Fl.z3]
          refine Fl.take (some 26) (v := undef) rfl rfl (Or.inr ⟨by rfl, rfl⟩) ?_
          simp only [Act.put, Fl.z1, Fl.z2, Fl.z3]
          refine Fl.take (some 27) (v := undef) rfl rfl (Or.inr ⟨by rfl, rfl⟩) ?_
          simp only [Act.put, Fl.z1, Fl.z2, Fl.z3]
          refine Fl.take (some 28) (v := undef) rfl rfl (Or.inr ⟨by rfl, rfl⟩) ?_
          simp only [Act.put, Fl.z1, Fl.z2, Fl.z3]
          refine Fl.take (some 29) (v := undef) rfl rfl (Or.inr ⟨by rfl, rfl⟩) ?_
          simp only [Act.put, Fl.z1, Fl.z2, Fl.z3]
          refine Fl.take (some 30) (v := undef) rfl rfl (Or.inr ⟨by rfl, rfl⟩) ?_
          simp only [Act.put, Fl.z1, Fl.z2, Fl.z3]
          refine Fl.take (some 31) (v := undef) rfl rfl (Or.inr ⟨by rfl, rfl⟩) ?_
          simp only [Act.put, Fl.z1, Fl.z2, Fl.z3]
          refine Fl.take (some 32) (v := undef) rfl rfl (Or.inr ⟨by rfl, rfl⟩) ?_
          simp only [Act.put, Fl.z1, Fl.z2, Fl.z3]
          refine Fl.take (some 33) (v := undef) rfl rfl (Or.inr ⟨by rfl, rfl⟩) ?_
          simp only [Act.put, Fl.z1, Fl.z2, Fl.z3]
          refine Fl.take (some 34) (v := .bool false) rfl rfl (Or.inl ⟨by rfl, fun _ _ => by rfl⟩) ?_
          simp only [Act.put, Fl.z1, Fl.z2, Fl.z3]
          refine Fl.take (some 35) (v := .bool false) rfl rfl (Or.inl ⟨by rfl, fun _ _ => by rfl⟩) ?_
          simp only [Act.put, Fl.z1, Fl.z2, Fl.z3]
          refine Fl.fin0 ?_
          refine Fl.stopN (fun W hi => ?_)
          have HI2 := Lib.hid hi
          clear hi
          go_wp2
          go_roundg (n - (0 + 1))
          case measure => have := HK.out; omega
          case rel => exact ⟨0 + 1, by go_num, Lib.hid (by have := HK.out; omega), HG, Lib.hid (Fl.inv_drop (N := [_, _]) HI2.out)⟩
        · obtain ⟨p, hp⟩ : ∃ p, l1[i - 1]? = some p := ⟨_, List.getElem?_eq_getElem (by have := HN.out; omega)⟩
          have HKp := Lib.hid (hrow (i - 1) p hp).1
          have HCp := Lib.hid (hrow (i - 1) p hp).2
          rw [show Ky.prev l1 i = some p from by unfold Ky.prev; rw [if_neg hi0]; exact hp, impl_isTable.cmp] at ht
          obtain ⟨cm, hcm, ht⟩ := Option.bind_eq_some_iff.mp ht
          obtain rfl := Option.some.inj ht
          have HL := Lib.hid hcm
          rw [show i - 1 = ((i : Int) - 1).toNat from by omega] at HCp
          have g0 : (0 : Int) ≤ (i : Int) - 1 := by omega
          have g1 : (i : Int) - 1 < (n : Int) := by omega
          have g2 : decide ((i : Int) > 0) = true := decide_eq_true (by omega)
          have g3 : IntKind.i64.wrap ((i : Int) - 1) = (i : Int) - 1 := by rw [IntKind.wrap_i64]; omega
          have g4 : (0 : Int) < (i : Int) := by omega
          have g7 : ((i : Int) < 1) = False := by simp; omega
          clear hp hrow hcm ht
          subst hA
          by_cases hlf : cm < 0
          · rw [if_pos (decide_eq_true hlf)] at hg
            have HG := Lib.hid (show impl_isTable.go k l0_0 n (Ky.prev l1 (i + 1)) (l1.drop (i + 1)) = some r by rw [HPV.out]; exact hg)
            clear hg
            go_upto_region 3 with (fail)
            refine Fl.startL [.take 0, .take 1, .take 2, .one 3, .take 4, .one 5] (by decide) HI.out ?_
            refine Fl.take (some 11) (v := .int .i64 (i : Int)) rfl rfl (Or.inl ⟨by rfl, fun _ _ => by rfl⟩) ?_
            simp only [Act.put, Fl.z1, Fl.z2, Fl.z3]
            refine Fl.take (some 12) (v := .pointer (some ⟨b, o + i * 20, none⟩)) rfl rfl (Or.inl ⟨by rfl, fun _ _ => by first | rfl | (go_simp; done) | (go_simp; rfl) | (go_simp; omega)⟩) ?_
            simp only [Act.put, Fl.z1, Fl.z2, Fl.z3]
            refine Fl.take (some 13) (v := .agg (Ky.ec x)) rfl rfl (yieldsIf_load_mid (by rfl) 66 _ rfl b (o + i * 20) rfl (Ky.ec x).toList _ (fun W1 hW1 => Ky.range_below HCx.out hW1.bel) Try.underlying66 rfl (by rw [Array.length_toList]; exact Ky.hEk HKx.out)) ?_
            simp only [Act.put, Fl.z1, Fl.z2, Fl.z3]
            refine Fl.var (N := 6) (cs := Ky.ec Ky.En0) (t := 66) ⟨_, rfl, rfl, fun _ => rfl, fun e w => by go_simp; rfl⟩ (fun be => ?_)
            simp only [Act.put, Fl.z1, Fl.z2, Fl.z3]
            refine Fl.take (some 5) (v := .int .i64 (i : Int)) rfl rfl (Or.inl ⟨by rfl, fun _ _ => by rfl⟩) ?_
            simp only [Act.put, Fl.z1, Fl.z2, Fl.z3]
            refine Fl.store 0 (Ky.ec x) rfl rfl rfl rfl _ _ _ rfl rfl rfl (by rfl) (by rw [Ky.ec_size HKx.out, Ky.ec_size Ky.key_0]) (Ky.hEk HKx.out) (Ky.ec_one x) ?_
            refine Fl.stop (fun W hi => ?_)
            replace HI := Lib.hid hi
            clear hi
            go_upto_region 4 with (fail)
            refine Fl.start [([],[]),([],[]),([1],[1]),([2],[2]),([0,3],[0,3]),([4],[4]),([5,4],[5]),([6],[6]),([7,6],[6,7]),([8,6,6],[6,8]),([9],[9]),([9],[9]),([11,9],[9,11]),([10,12,9],[9,10,12]),([13,9],[9,13]),([14,9],[9,14]),([9],[9]),([16,9],[9,16]),([15,17,9,9],[9,15,17]),([18,9],[9,18]),([9,19,6],[6,9,19]),([6,20],[6,20])] [] 23 [.take 0, .take 1, .take 2, .one 3, .one 4, .take 5, .take 6, .take 7, .take 8, .take 9, .take 10, .take 11, .take 12, .take 13, .take 14, .take 15, .take 16, .take 17, .one 18, .take 19, .take 20, .take 21] [] (by kernel_rfl) (by kernel_rfl) (by decide) (by decide) (by kernel_rfl) (by kernel_rfl) Fl.mk0 HI.out ?_
            refine Fl.take (some 14) (v := .agg #[.slice A0_0 l0_0.length c0_0]) rfl rfl (Fl.ld 1 rfl (by rfl) _ _ rfl rfl Try.underlying32 rfl (by kernel_rfl)) ?_
            simp only [Act.put, Fl.z1, Fl.z2, Fl.z3]
            refine Fl.take (some 15) (v := .pointer (some ⟨be, 16, none⟩)) rfl rfl (Or.inl ⟨by rfl, fun _ _ => by first | rfl | (go_simp; done) | (go_simp; rfl) | (go_simp; omega)⟩) ?_
            simp only [Act.put, Fl.z1, Fl.z2, Fl.z3]
            refine Fl.take (some 16) (v := .agg (Ky.wc x)) rfl rfl (Fl.ldP 0 16 (Ky.wc x) rfl (by rfl) _ _ rfl rfl (Ky.ec_win HKx.out) Try.underlying54 rfl (by kernel_rfl)) ?_
            simp only [Act.put, Fl.z1, Fl.z2, Fl.z3]
            refine Fl.lit (N := 17) (cs := Ky.wc x) (t := 54) (n := 1) rfl rfl (by rfl) (fun w => by first | (go_simp; done) | (go_simp; rfl)) (fun b1 => ?_)
            simp only [Act.put, Fl.z1, Fl.z2, Fl.z3]
            refine Fl.call (some 18) Try.func58 (by kernel_rfl) rfl #[.agg #[.slice A0_0 l0_0.length c0_0], .slice (some ⟨b1, 0, none⟩) 1 1] rfl rfl rfl (by rfl) rfl (fun E W hE hi => ?_)
            refine (impl_areOn.calls k _ _ l0_0 _ _ [(⟨x.a, x.s, x.l, x.c⟩ : S54)] true W (Kd.C_below HR0.out hi.bel) HC0.out (Fl.c_one (hi.blk 0 rfl) (k54_mk _ ⟨x.a, x.s, x.l, x.c⟩)) (Nat.le_refl _) HT.out).mono ?_
            rintro e W' ⟨rfl, hb⟩
            refine Fl.keep (v := .bool true) hi hb ?_
            clear hi hb hE
            simp only [Act.put, Fl.z1, Fl.z2, Fl.z3]
            refine Fl.take (some 19) (v := .bool false) rfl rfl (Or.inl ⟨by rfl, fun _ _ => by rfl⟩) ?_
            simp only [Act.put, Fl.z1, Fl.z2, Fl.z3]
            refine Fl.take (some 20) (v := .bool false) rfl rfl (Or.inl ⟨by rfl, fun _ _ => by rfl⟩) ?_
            simp only [Act.put, Fl.z1, Fl.z2, Fl.z3]
            refine Fl.take (some 21) (v := .int .i64 (i : Int)) rfl rfl (Or.inl ⟨by rfl, fun _ _ => by rfl⟩) ?_
            simp only [Act.put, Fl.z1, Fl.z2, Fl.z3]
            refine Fl.take (some 22) (v := .bool true) rfl rfl (Or.inl ⟨by rfl, fun _ _ => by first | rfl | (go_simp; done) | (go_simp; rfl) | (go_simp; omega)⟩) ?_
            simp only [Act.put, Fl.z1, Fl.z2, Fl.z3]
            refine Fl.take (some 23) (v := .bool true) rfl rfl (Or.inl ⟨by rfl, fun _ _ => by rfl⟩) ?_
            simp only [Act.put, Fl.z1, Fl.z2, Fl.z3]
            refine Fl.take (some 24) (v := .slice (some ⟨b, o, none⟩) n c1) rfl rfl (Or.inl ⟨by rfl, fun _ _ => by rfl⟩) ?_
            simp only [Act.put, Fl.z1, Fl.z2, Fl.z3]
            refine Fl.take (some 25) (v := .int .i64 (i : Int)) rfl rfl (Or.inl ⟨by rfl, fun _ _ => by rfl⟩) ?_
            simp only [Act.put, Fl.z1, Fl.z2, Fl.z3]
            refine Fl.take (some 26) (v := .int .i64 ((i : Int) - 1)) rfl rfl (Or.inl ⟨by rfl, fun _ _ => by first | rfl | (go_simp; done) | (go_simp; rfl) | (go_simp; omega)⟩) ?_
            simp only [Act.put, Fl.z1, Fl.z2, Fl.z3]
            refine Fl.take (some 27) (v := .pointer (some ⟨b, o + ((i : Int) - 1).toNat * 20, none⟩)) rfl rfl (Or.inl ⟨by rfl, fun _ _ => by first | rfl | (go_simp; done) | (go_simp; rfl) | (go_simp; omega)⟩) ?_
            simp only [Act.put, Fl.z1, Fl.z2, Fl.z3]
            refine Fl.take (some 28) (v := .pointer (some ⟨b, o + ((i : Int) - 1).toNat * 20, none⟩)) rfl rfl (Or.inl ⟨by rfl, fun _ _ => by first | rfl | (go_simp; done) | (go_simp; rfl) | (go_simp; omega)⟩) ?_
            simp only [Act.put, Fl.z1, Fl.z2, Fl.z3]
            refine Fl.take (some 29) (v := .agg (Ky.bs p.key)) rfl rfl (yieldsIf_load_mid (by rfl) 26 _ rfl b (o + ((i : Int) - 1).toNat * 20) rfl (Ky.bs p.key).toList _ (fun W1 hW1 => Ky.range_below (Ky.range_ekey HKp.out HCp.out) hW1.bel) Ky.hK rfl (by rw [Array.length_toList]; exact Ky.hKk HKp.out)) ?_
            simp only [Act.put, Fl.z1, Fl.z2, Fl.z3]
            refine Fl.take (some 30) (v := .pointer (some ⟨be, 0, none⟩)) rfl rfl (Or.inl ⟨by rfl, fun _ _ => by first | rfl | (go_simp; done) | (go_simp; rfl) | (go_simp; omega)⟩) ?_
            simp only [Act.put, Fl.z1, Fl.z2, Fl.z3]
            refine Fl.take (some 31) (v := .agg (Ky.bs x.key)) rfl rfl (Fl.ldP 0 0 (Ky.bs x.key) rfl (by rfl) _ _ rfl rfl (Ky.ec_key HKx.out) Ky.hK rfl (Ky.hKk HKx.out)) ?_
            simp only [Act.put, Fl.z1, Fl.z2, Fl.z3]
            refine Fl.call (some 32) Try.func41 (by kernel_rfl) rfl #[.agg (Ky.bs p.key), .agg (Ky.bs x.key)] rfl rfl rfl (by rfl) rfl (fun E W hE hi => ?_)
            refine (impl_compareKeys.calls p.key x.key cm W HKp.out HKx.out HL.out).mono ?_
            rintro e W' ⟨rfl, hb⟩
            refine Fl.keep (v := .int .i64 cm) hi hb ?_
            clear hi hb hE
            simp only [Act.put, Fl.z1, Fl.z2, Fl.z3]
            refine Fl.take (some 33) (v := .bool false) rfl rfl (Or.inl ⟨by rfl, fun _ _ => by first | rfl | (go_simp; done) | (go_simp; rfl) | (go_simp; omega)⟩) ?_
            simp only [Act.put, Fl.z1, Fl.z2, Fl.z3]
            refine Fl.take (some 34) (v := .bool false) rfl rfl (Or.inl ⟨by rfl, fun _ _ => by rfl⟩) ?_
            simp only [Act.put, Fl.z1, Fl.z2, Fl.z3]
            refine Fl.take (some 35) (v := .bool false) rfl rfl (Or.inl ⟨by rfl, fun _ _ => by rfl⟩) ?_
            simp only [Act.put, Fl.z1, Fl.z2, Fl.z3]
            refine Fl.fin0 ?_
            refine Fl.stopN (fun W hi => ?_)
            have HI2 := Lib.hid hi
            clear hi
            go_wp2
            go_roundg (n - (i + 1))
            case measure => have := HK.out; omega
            case rel => exact ⟨i + 1, by go_num, Lib.hid (by have := HK.out; omega), HG, Lib.hid (Fl.inv_drop (N := [_, _]) HI2.out)⟩
          · rw [if_neg (by rw [decide_eq_false hlf]; decide)] at hg
            obtain rfl := Option.some.inj hg
            clear hg
            go_upto_region 3 with (fail)
            refine Fl.startL [.take 0, .take 1, .take 2, .one 3, .take 4, .one 5] (by decide) HI.out ?_
            refine Fl.take (some 11) (v := .int .i64 (i : Int)) rfl rfl (Or.inl ⟨by rfl, fun _ _ => by rfl⟩) ?_
            simp only [Act.put, Fl.z1, Fl.z2, Fl.z3]
            refine Fl.take (some 12) (v := .pointer (some ⟨b, o + i * 20, none⟩)) rfl rfl (Or.inl ⟨by rfl, fun _ _ => by first | rfl | (go_simp; done) | (go_simp; rfl) | (go_simp; omega)⟩) ?_
            simp only [Act.put, Fl.z1, Fl.z2, Fl.z3]
            refine Fl.take (some 13) (v := .agg (Ky.ec x)) rfl rfl (yieldsIf_load_mid (by rfl) 66 _ rfl b (o + i * 20) rfl (Ky.ec x).toList _ (fun W1 hW1 => Ky.range_below HCx.out hW1.bel) Try.underlying66 rfl (by rw [Array.length_toList]; exact Ky.hEk HKx.out)) ?_
            simp only [Act.put, Fl.z1, Fl.z2, Fl.z3]
            refine Fl.var (N := 6) (cs := Ky.ec Ky.En0) (t := 66) ⟨_, rfl, rfl, fun _ => rfl, fun e w => by go_simp; rfl⟩ (fun be => ?_)
            simp only [Act.put, Fl.z1, Fl.z2, Fl.z3]
            refine Fl.take (some 5) (v := .int .i64 (i : Int)) rfl rfl (Or.inl ⟨by rfl, fun _ _ => by rfl⟩) ?_
            simp only [Act.put, Fl.z1, Fl.z2, Fl.z3]
            refine Fl.store 0 (Ky.ec x) rfl rfl rfl rfl _ _ _ rfl rfl rfl (by rfl) (by rw [Ky.ec_size HKx.out, Ky.ec_size Ky.key_0]) (Ky.hEk HKx.out) (Ky.ec_one x) ?_
            refine Fl.stop (fun W hi => ?_)
            replace HI := Lib.hid hi
            clear hi
            go_upto_region 4 with (fail)
            refine Fl.start [([],[]),([],[]),([1],[1]),([2],[2]),([0,3],[0,3]),([4],[4]),([5,4],[5]),([6],[6]),([7,6],[6,7]),([8,6,6],[6,8]),([9],[9]),([9],[9]),([11,9],[9,11]),([10,12,9],[9,10,12]),([13,9],[9,13]),([14,9],[9,14]),([9],[9]),([16,9],[9,16]),([15,17,9,9],[9,15,17]),([18,9],[9,18]),([9,19,6],[6,9,19]),([6,20],[6,20])] [] 23 [.take 0, .take 1, .take 2, .one 3, .one 4, .take 5, .take 6, .take 7, .take 8, .take 9, .take 10, .take 11, .take 12, .take 13, .take 14, .take 15, .take 16, .take 17, .one 18, .take 19, .take 20, .take 21] [] (by kernel_rfl) (by kernel_rfl) (by decide) (by decide) (by kernel_rfl) (by kernel_rfl) Fl.mk0 HI.out ?_
            refine Fl.take (some 14) (v := .agg #[.slice A0_0 l0_0.length c0_0]) rfl rfl (Fl.ld 1 rfl (by rfl) _ _ rfl rfl Try.underlying32 rfl (by kernel_rfl)) ?_
            simp only [Act.put, Fl.z1, Fl.z2, Fl.z3]
            refine Fl.take (some 15) (v := .pointer (some ⟨be, 16, none⟩)) rfl rfl (Or.inl ⟨by rfl, fun _ _ => by first | rfl | (go_simp; done) | (go_simp; rfl) | (go_simp; omega)⟩) ?_
            simp only [Act.put, Fl.z1, Fl.z2, Fl.z3]
            refine Fl.take (some 16) (v := .agg (Ky.wc x)) rfl rfl (Fl.ldP 0 16 (Ky.wc x) rfl (by rfl) _ _ rfl rfl (Ky.ec_win HKx.out) Try.underlying54 rfl (by kernel_rfl)) ?_
            simp only [Act.put, Fl.z1, Fl.z2, Fl.z3]
            refine Fl.lit (N := 17) (cs := Ky.wc x) (t := 54) (n := 1) rfl rfl (by rfl) (fun w => by first | (go_simp; done) | (go_simp; rfl)) (fun b1 => ?_)
            simp only [Act.put, Fl.z1, Fl.z2, Fl.z3]
            refine Fl.call (some 18) Try.func58 (by kernel_rfl) rfl #[.agg #[.slice A0_0 l0_0.length c0_0], .slice (some ⟨b1, 0, none⟩) 1 1] rfl rfl rfl (by rfl) rfl (fun E W hE hi => ?_)
            refine (impl_areOn.calls k _ _ l0_0 _ _ [(⟨x.a, x.s, x.l, x.c⟩ : S54)] true W (Kd.C_below HR0.out hi.bel) HC0.out (Fl.c_one (hi.blk 0 rfl) (k54_mk _ ⟨x.a, x.s, x.l, x.c⟩)) (Nat.le_refl _) HT.out).mono ?_
            rintro e W' ⟨rfl, hb⟩
            refine Fl.keep (v := .bool true) hi hb ?_
            clear hi hb hE
            simp only [Act.put, Fl.z1, Fl.z2, Fl.z3]
            refine Fl.take (some 19) (v := .bool false) rfl rfl (Or.inl ⟨by rfl, fun _ _ => by rfl⟩) ?_
            simp only [Act.put, Fl.z1, Fl.z2, Fl.z3]
            refine Fl.take (some 20) (v := .bool false) rfl rfl (Or.inl ⟨by rfl, fun _ _ => by rfl⟩) ?_
            simp only [Act.put, Fl.z1, Fl.z2, Fl.z3]
            refine Fl.take (some 21) (v := .int .i64 (i : Int)) rfl rfl (Or.inl ⟨by rfl, fun _ _ => by rfl⟩) ?_
            simp only [Act.put, Fl.z1, Fl.z2, Fl.z3]
            refine Fl.take (some 22) (v := .bool true) rfl rfl (Or.inl ⟨by rfl, fun _ _ => by first | rfl | (go_simp; done) | (go_simp; rfl) | (go_simp; omega)⟩) ?_
            simp only [Act.put, Fl.z1, Fl.z2, Fl.z3]
            refine Fl.take (some 23) (v := .bool true) rfl rfl (Or.inl ⟨by rfl, fun _ _ => by rfl⟩) ?_
            simp only [Act.put, Fl.z1, Fl.z2, Fl.z3]
            refine Fl.take (some 24) (v := .slice (some ⟨b, o, none⟩) n c1) rfl rfl (Or.inl ⟨by rfl, fun _ _ => by rfl⟩) ?_
            simp only [Act.put, Fl.z1, Fl.z2, Fl.z3]
            refine Fl.take (some 25) (v := .int .i64 (i : Int)) rfl rfl (Or.inl ⟨by rfl, fun _ _ => by rfl⟩) ?_
            simp only [Act.put, Fl.z1, Fl.z2, Fl.z3]
            refine Fl.take (some 26) (v := .int .i64 ((i : Int) - 1)) rfl rfl (Or.inl ⟨by rfl, fun _ _ => by first | rfl | (go_simp; done) | (go_simp; rfl) | (go_simp; omega)⟩) ?_
            simp only [Act.put, Fl.z1, Fl.z2, Fl.z3]
            refine Fl.take (some 27) (v := .pointer (some ⟨b, o + ((i : Int) - 1).toNat * 20, none⟩)) rfl rfl (Or.inl ⟨by rfl, fun _ _ => by first | rfl | (go_simp; done) | (go_simp; rfl) | (go_simp; omega)⟩) ?_
            simp only [Act.put, Fl.z1, Fl.z2, Fl.z3]
            refine Fl.take (some 28) (v := .pointer (some ⟨b, o + ((i : Int) - 1).toNat * 20, none⟩)) rfl rfl (Or.inl ⟨by rfl, fun _ _ => by first | rfl | (go_simp; done) | (go_simp; rfl) | (go_simp; omega)⟩) ?_
            simp only [Act.put, Fl.z1, Fl.z2, Fl.z3]
            refine Fl.take (some 29) (v := .agg (Ky.bs p.key)) rfl rfl (yieldsIf_load_mid (by rfl) 26 _ rfl b (o + ((i : Int) - 1).toNat * 20) rfl (Ky.bs p.key).toList _ (fun W1 hW1 => Ky.range_below (Ky.range_ekey HKp.out HCp.out) hW1.bel) Ky.hK rfl (by rw [Array.length_toList]; exact Ky.hKk HKp.out)) ?_
            simp only [Act.put, Fl.z1, Fl.z2, Fl.z3]
            refine Fl.take (some 30) (v := .pointer (some ⟨be, 0, none⟩)) rfl rfl (Or.inl ⟨by rfl, fun _ _ => by first | rfl | (go_simp; done) | (go_simp; rfl) | (go_simp; omega)⟩) ?_
            simp only [Act.put, Fl.z1, Fl.z2, Fl.z3]
            refine Fl.take (some 31) (v := .agg (Ky.bs x.key)) rfl rfl (Fl.ldP 0 0 (Ky.bs x.key) rfl (by rfl) _ _ rfl rfl (Ky.ec_key HKx.out) Ky.hK rfl (Ky.hKk HKx.out)) ?_
            simp only [Act.put, Fl.z1, Fl.z2, Fl.z3]
            refine Fl.call (some 32) Try.func41 (by kernel_rfl) rfl #[.agg (Ky.bs p.key), .agg (Ky.bs x.key)] rfl rfl rfl (by rfl) rfl (fun E W hE hi => ?_)
            refine (impl_compareKeys.calls p.key x.key cm W HKp.out HKx.out HL.out).mono ?_
            rintro e W' ⟨rfl, hb⟩
            refine Fl.keep (v := .int .i64 cm) hi hb ?_
            clear hi hb hE
            simp only [Act.put, Fl.z1, Fl.z2, Fl.z3]
            refine Fl.take (some 33) (v := .bool true) rfl rfl (Or.inl ⟨by rfl, fun _ _ => by first | rfl | (go_simp; done) | (go_simp; rfl) | (go_simp; omega)⟩) ?_
            simp only [Act.put, Fl.z1, Fl.z2, Fl.z3]
            refine Fl.take (some 34) (v := .bool true) rfl rfl (Or.inl ⟨by rfl, fun _ _ => by rfl⟩) ?_
            simp only [Act.put, Fl.z1, Fl.z2, Fl.z3]
            refine Fl.take (some 35) (v := .bool true) rfl rfl (Or.inl ⟨by rfl, fun _ _ => by rfl⟩) ?_
            simp only [Act.put, Fl.z1, Fl.z2, Fl.z3]
            refine Fl.fin0 ?_
            refine Fl.stopN (fun W hi => ?_)
            have HI2 := Lib.hid hi
            clear hi
            go_wp2
            go_ret
            exact ⟨rfl, HI2.out.bel⟩
    · have hg : impl_isTable.fin k l0_0 n = some r := by
        have hg := HG.out
        rw [List.drop_eq_nil_of_le (by have := HN.out; omega), impl_isTable.go] at hg
        exact hg
      clear HG
      have h4 : ¬ (i : Int) < (n : Int) := by omega
      rw [impl_isTable.fin] at hg
      obtain ⟨t, ht, hg⟩ := Option.bind_eq_some_iff.mp hg
      obtain rfl := Option.some.inj hg
      have HT := Lib.hid ht
      clear ht hg
      cases t with
      | true =>
        go_upto_region 7 with (fail)
        refine Fl.startL [.take 0, .one 1, .take 2, .take 3, .take 4, .take 5, .take 6, .take 7] (by decide) HI.out ?_
        refine Fl.take (some 37) (v := .agg #[.slice A0_0 l0_0.length c0_0]) rfl rfl (Fl.ld 0 rfl (by rfl) _ _ rfl rfl Try.underlying32 rfl (by kernel_rfl)) ?_
        simp only [Act.put, Fl.z1, Fl.z2, Fl.z3]
        refine Fl.call (some 38) Try.func68 (by kernel_rfl) rfl #[.agg #[.slice A0_0 l0_0.length c0_0]] rfl rfl rfl (by rfl) rfl (fun E W hE hi => ?_)
        refine (impl_IsMemory.calls k _ _ l0_0 true W (Kd.C_below HR0.out hi.bel) HC0.out HT.out).mono ?_
        rintro e W' ⟨rfl, hb⟩
        refine Fl.keep (v := .bool true) hi hb ?_
        clear hi hb hE
        simp only [Act.put, Fl.z1, Fl.z2, Fl.z3]
        refine Fl.take (some 39) (v := .bool true) rfl rfl (Or.inl ⟨by rfl, fun _ _ => by rfl⟩) ?_
        simp only [Act.put, Fl.z1, Fl.z2, Fl.z3]
        refine Fl.take (some 40) (v := .slice A1 n c1) rfl rfl (Or.inl ⟨by rfl, fun _ _ => by rfl⟩) ?_
        simp only [Act.put, Fl.z1, Fl.z2, Fl.z3]
        refine Fl.take (some 41) (v := .int .i64 (n : Int)) rfl rfl (Or.inl ⟨by rfl, fun _ _ => by first | rfl | (go_simp; done) | (go_simp; rfl) | (go_simp; omega)⟩) ?_
        simp only [Act.put, Fl.z1, Fl.z2, Fl.z3]
        refine Fl.take (some 42) (v := .bool (decide ((n : Int) ≤ 12))) rfl rfl (Or.inl ⟨by rfl, fun _ _ => by first | rfl | (go_simp; done) | (go_simp; rfl) | (go_simp; omega)⟩) ?_
        simp only [Act.put, Fl.z1, Fl.z2, Fl.z3]
        refine Fl.take (some 43) (v := .bool (decide ((n : Int) ≤ 12))) rfl rfl (Or.inl ⟨by rfl, fun _ _ => by rfl⟩) ?_
        simp only [Act.put, Fl.z1, Fl.z2, Fl.z3]
        refine Fl.take (some 4) (v := .bool (decide ((n : Int) ≤ 12))) rfl rfl (Or.inl ⟨by rfl, fun _ _ => by rfl⟩) ?_
        simp only [Act.put, Fl.z1, Fl.z2, Fl.z3]
        refine Fl.stop (fun W hi => ?_)
        replace HI := Lib.hid hi
        clear hi
        go_wp2
        go_ret
        exact ⟨rfl, HI.out.bel⟩
      | false =>
        go_upto_region 7 with (fail)
        refine Fl.startL [.take 0, .one 1, .take 2, .take 3, .take 4, .take 5, .take 6, .take 7] (by decide) HI.out ?_
        refine Fl.take (some 37) (v := .agg #[.slice A0_0 l0_0.length c0_0]) rfl rfl (Fl.ld 0 rfl (by rfl) _ _ rfl rfl Try.underlying32 rfl (by kernel_rfl)) ?_
        simp only [Act.put, Fl.z1, Fl.z2, Fl.z3]
        refine Fl.call (some 38) Try.func68 (by kernel_rfl) rfl #[.agg #[.slice A0_0 l0_0.length c0_0]] rfl rfl rfl (by rfl) rfl (fun E W hE hi => ?_)
        refine (impl_IsMemory.calls k _ _ l0_0 false W (Kd.C_below HR0.out hi.bel) HC0.out HT.out).mono ?_
        rintro e W' ⟨rfl, hb⟩
        refine Fl.keep (v := .bool false) hi hb ?_
        clear hi hb hE
        simp only [Act.put, Fl.z1, Fl.z2, Fl.z3]
        refine Fl.take (some 39) (v := .bool false) rfl rfl (Or.inl ⟨by rfl, fun _ _ => by rfl⟩) ?_
        simp only [Act.put, Fl.z1, Fl.z2, Fl.z3]
        refine Fl.take (some 40) (v := undef) rfl rfl (Or.inr ⟨by rfl, rfl⟩) ?_
        simp only [Act.put, Fl.z1, Fl.z2, Fl.z3]
        refine Fl.take (some 41) (v := undef) rfl rfl (Or.inr ⟨by rfl, rfl⟩) ?_
        simp only [Act.put, Fl.z1, Fl.z2, Fl.z3]
        refine Fl.take (some 42) (v := undef) rfl rfl (Or.inr ⟨by rfl, rfl⟩) ?_
        simp only [Act.put, Fl.z1, Fl.z2, Fl.z3]
        refine Fl.take (some 43) (v := .bool false) rfl rfl (Or.inl ⟨by rfl, fun _ _ => by rfl⟩) ?_
        simp only [Act.put, Fl.z1, Fl.z2, Fl.z3]
        refine Fl.take (some 4) (v := .bool false) rfl rfl (Or.inl ⟨by rfl, fun _ _ => by rfl⟩) ?_
        simp only [Act.put, Fl.z1, Fl.z2, Fl.z3]
        refine Fl.stop (fun W hi => ?_)
        replace HI := Lib.hid hi
        clear hi
        go_wp2
        go_ret
        exact ⟨rfl, HI.out.bel⟩

/-! ### impl_EntriesBetween: function 12 (by hand) -/
def impl_EntriesBetween.keep (lo hi : List Int) (x : Ky.En) : Bool := decide (0 ≤ Ky.cmpF x.key lo) && decide (Ky.cmpF x.key hi < 0)
def impl_EntriesBetween.f (k : Nat) (l0_0 : List (List Int)) (l1 : List Ky.En) (a2 : List Int) (a3 : List Int) : Option (List Ky.En × Bool) := if l1.length ≤ 1048576 ∧ (∀ x ∈ a2, 0 ≤ x ∧ x ≤ 255) ∧ (∀ x ∈ a3, 0 ≤ x ∧ x ≤ 255) ∧ (∀ x ∈ l1, ∀ y ∈ x.key, 0 ≤ y ∧ y ≤ 255) then (impl_isTable.f k l0_0 l1).bind fun t => if t = true then some (l1.filter (impl_EntriesBetween.keep a2 a3), true) else some ([], false) else none
theorem impl_EntriesBetween.mono : ∀ a0 a1 a2 a3 k, LeO (impl_EntriesBetween.f k a0 a1 a2 a3) (impl_EntriesBetween.f (k + 1) a0 a1 a2 a3) := by
  intro a0 a1 a2 a3 k
  unfold impl_EntriesBetween.f
  exact LeO.ite (LeO.bind (by apply impl_isTable.mono) (fun _ => LeO.refl _)) (LeO.refl _)
set_option maxHeartbeats 4000000 in
set_option maxRecDepth 100000 in
theorem impl_EntriesBetween.calls (k : Nat) (A0_0 : Option Addr) (c0_0 : Nat) (l0_0 : List (List Int)) (A1 : Option Addr) (c1 : Nat) (l1 : List Ky.En) (a2 : List Int) (a3 : List Int) (r1 : List Ky.En) (r2 : Bool) (w : World) (hr0_0 : Kd.C (Kd.slice 5 (Kd.int .u8)) w A0_0 l0_0.length l0_0) (hc0_0 : l0_0.length ≤ c0_0) (hr1 : Kd.C Ky.ke w A1 l1.length l1) (hc1 : l1.length ≤ c1) (hk2 : Ky.Key a2) (hk3 : Ky.Key a3) (h : impl_EntriesBetween.f k l0_0 l1 a2 a3 = some (r1, r2)) :
    Calls Try.prog 12 #[.agg #[.slice A0_0 l0_0.length c0_0], .slice A1 l1.length c1, .agg (Ky.bs a2), .agg (Ky.bs a3)] w fun e w' => ∃ v0_ : Value, e = .returned (.tuple #[v0_, .bool r2]) ∧ Kd.R Ky.ke 66 w' w.heap.size (fun _ => True) v0_ r1 ∧ Below w.heap.size w w' := by
  have HR1 := Lib.hid hr1
  have HA2 := Lib.hid hk2
  have HA3 := Lib.hid hk3
  unfold impl_EntriesBetween.f at h
  obtain ⟨⟨hle, hb2, hb3, hb1⟩, h⟩ := Ky.of_condO h
  obtain ⟨t, ht, h⟩ := Option.bind_eq_some_iff.mp h
  have HTC : Hid (∀ W, Below w.heap.size w W → Calls Try.prog 40 #[.agg #[.slice A0_0 l0_0.length c0_0], .slice A1 l1.length c1] W fun e w' => e = .returned (.bool t) ∧ Below W.heap.size W w') := Lib.hid fun W hb => impl_isTable.calls k _ _ l0_0 _ _ l1 t W (Kd.C_below hr0_0 hb) hc0_0 (Kd.C_below hr1 hb) hc1 ht
  clear hr0_0 hc0_0 hr1 hc1 hk2 hk3 ht
  obtain ⟨n, hn⟩ : ∃ n, n = l1.length := ⟨_, rfl⟩
  rw [← hn] at hle HTC ⊢
  have HN := Lib.hid hn
  have HB2 := Lib.hid hb2
  have HB3 := Lib.hid hb3
  have HB1 := Lib.hid hb1
  clear hb2 hb3 hb1
  have HM := Lib.hid hle
  have HH := Lib.hid h
  clear hn h hle
  obtain ⟨W0, hW⟩ : ∃ W, W = ((w.alloc (.cells #[.slice A0_0 l0_0.length c0_0] 32)).alloc (.cells (Ky.bs a2) 26)).alloc (.cells (Ky.bs a3) 26) := ⟨_, rfl⟩
  have HI : Hid (Lv.Inv w W0 [Lv.boxF (w.heap.size + 2) (Ky.bs a3) 26, Lv.boxF (w.heap.size + 1) (Ky.bs a2) 26, Lv.boxF (w.heap.size) #[.slice A0_0 l0_0.length c0_0] 32]) := by
    subst hW
    have := (((Lv.Inv.refl w).box #[.slice A0_0 l0_0.length c0_0] 32).box (Ky.bs a2) 26).box (Ky.bs a3) 26
    exact Lib.hid (by simpa using this)
  go_enter Try.func12, Try.ntmps12
  go_upto_region 1 with (fail)
  rw [← hW]
  clear hW
  cases t with
  | false =>
    have h := HH.out
    rw [if_neg (by decide)] at h
    obtain ⟨rfl, rfl⟩ := Prod.mk.inj (Option.some.inj h)
    clear h HH
    refine Fl.startL [.take 0, .take 1, .one 2, .take 3] (by decide) HI.out ?_
    refine Fl.take (some 13) (v := .agg #[.slice A0_0 l0_0.length c0_0]) rfl rfl (Fl.ld 2 rfl (by rfl) _ _ rfl rfl Try.underlying32 rfl (by kernel_rfl)) ?_
    simp only [Act.put, Fl.z1, Fl.z2, Fl.z3]
    refine Fl.take (some 14) (v := .slice A1 n c1) rfl rfl (Or.inl ⟨by rfl, fun _ _ => by rfl⟩) ?_
    simp only [Act.put, Fl.z1, Fl.z2, Fl.z3]
    refine Fl.call (some 15) Try.func40 (by kernel_rfl) rfl #[.agg #[.slice A0_0 l0_0.length c0_0], .slice A1 n c1] rfl rfl rfl (by rfl) rfl (fun E W hE hi => ?_)
    refine (HTC.out W hi.bel).mono ?_
    rintro e W' ⟨rfl, hb⟩
    refine Fl.keep (v := .bool false) hi hb ?_
    clear hi hb hE
    simp only [Act.put, Fl.z1, Fl.z2, Fl.z3]
    refine Fl.take (some 16) (v := .bool true) rfl rfl (Or.inl ⟨by rfl, fun _ _ => by rfl⟩) ?_
    simp only [Act.put, Fl.z1, Fl.z2, Fl.z3]
    refine Fl.stop (fun W hi => ?_)
    replace HI := Lib.hid hi
    clear hi
    go_wp2
    go_ret2
    exact ⟨_, rfl, Kd.R_nil _ _ _ _ _, HI.out.bel⟩
  | true =>
    have h := HH.out
    rw [if_pos rfl] at h
    obtain ⟨rfl, rfl⟩ := Prod.mk.inj (Option.some.inj h)
    clear h HH
    refine Fl.startL [.take 0, .take 1, .one 2, .take 3] (by decide) HI.out ?_
    refine Fl.take (some 13) (v := .agg #[.slice A0_0 l0_0.length c0_0]) rfl rfl (Fl.ld 2 rfl (by rfl) _ _ rfl rfl Try.underlying32 rfl (by kernel_rfl)) ?_
    simp only [Act.put, Fl.z1, Fl.z2, Fl.z3]
    refine Fl.take (some 14) (v := .slice A1 n c1) rfl rfl (Or.inl ⟨by rfl, fun _ _ => by rfl⟩) ?_
    simp only [Act.put, Fl.z1, Fl.z2, Fl.z3]
    refine Fl.call (some 15) Try.func40 (by kernel_rfl) rfl #[.agg #[.slice A0_0 l0_0.length c0_0], .slice A1 n c1] rfl rfl rfl (by rfl) rfl (fun E W hE hi => ?_)
    refine (HTC.out W hi.bel).mono ?_
    rintro e W' ⟨rfl, hb⟩
    refine Fl.keep (v := .bool true) hi hb ?_
    clear hi hb hE
    simp only [Act.put, Fl.z1, Fl.z2, Fl.z3]
    refine Fl.take (some 16) (v := .bool false) rfl rfl (Or.inl ⟨by rfl, fun _ _ => by rfl⟩) ?_
    simp only [Act.put, Fl.z1, Fl.z2, Fl.z3]
    refine Fl.stop (fun W hi => ?_)
    replace HI := Lib.hid hi
    clear hi
    obtain ⟨W1, hW1⟩ : ∃ W1, W1 = W := ⟨_, rfl⟩
    rw [← hW1] at HI ⊢
    clear hW1
    go_upto_region 4 with (first | ((with_reducible refine gate_dst (N := 17) rfl ?_); refine Kd.R_lit Ky.ke (w0 := W1) W1.heap.size 66 ?hg (N := 17) ?hd (xs := ([] : List Ky.En)) (inner := []) (ok := fun _ => True) (okp := fun _ => True) ?hr ?hp (fun _ hk => hk) trivial (Below.refl _ _) (Nat.le_refl _) (by simp) ?_; (case hd => rfl); (case hg => rfl); (case hr => first | (go_simp; done) | (go_simp; rfl)); (case hp => exact (Reps.none _ _)); intro vr w7 ho7 hb7 hg7 hn7; replace HI := Lib.hid (HI.out.row ho7 hb7); clear ho7 hb7 hg7 hn7))
    go_wp2
    go_loopg [10, 12, 20] n (fun gg s10 _ s20 wr => ∃ (i : Nat) (v : Value), s10 = v ∧ s20 = .int .i64 i ∧ Hid (i ≤ n ∧ n - i ≤ gg) ∧ Hid (Lv.Inv w wr (Lv.rowF Ky.ke 66 w.heap.size v ((l1.take i).filter (impl_EntriesBetween.keep a2 a3)) :: [Lv.boxF (w.heap.size + 2) (Ky.bs a3) 26, Lv.boxF (w.heap.size + 1) (Ky.bs a2) 26, Lv.boxF (w.heap.size) #[.slice A0_0 l0_0.length c0_0] 32])))
    case atStart => exact ⟨0, vr, rfl, rfl, Lib.hid (by omega), HI⟩
    case round =>
      clear HI
      obtain ⟨i, vq, rfl, rfl, HK, HI⟩ := hrel
      by_cases hlt : i < n
      · obtain ⟨b, o, hA, hrow⟩ := Ky.row_entry HR1.out (by have := HN.out; omega)
        obtain ⟨x, hx⟩ : ∃ x, l1[i]? = some x := ⟨_, List.getElem?_eq_getElem (by have := HN.out; omega)⟩
        have HKx := Lib.hid (hrow i x hx).1
        have HCx := Lib.hid (hrow i x hx).2
        have HXX := Lib.hid hx
        clear hx hrow
        subst hA
        have k0 : (0 : Int) ≤ (i : Int) := by omega
        have k1 : (i : Int) < (n : Int) := by omega
        have k3 : ((n : Int)).toNat ≤ 1048576 := by have := HM.out; omega
        have hbx := HB1.out x (List.mem_of_getElem? HXX.out)
        obtain ⟨cl, hcl⟩ : ∃ c, c = Ky.cmpF x.key a2 := ⟨_, rfl⟩
        have HL := Lib.hid (show impl_compareKeys.f x.key a2 = some cl by rw [impl_compareKeys.f, if_pos ⟨hbx, HB2.out⟩, hcl])
        by_cases hge : 0 ≤ cl
        · obtain ⟨ch, hch⟩ : ∃ c, c = Ky.cmpF x.key a3 := ⟨_, rfl⟩
          have HH3 := Lib.hid (show impl_compareKeys.f x.key a3 = some ch by rw [impl_compareKeys.f, if_pos ⟨hbx, HB3.out⟩, hch])
          by_cases hlt3 : ch < 0
          · have HF := Lib.hid (show (l1.take (i + 1)).filter (impl_EntriesBetween.keep a2 a3) = (l1.take i).filter (impl_EntriesBetween.keep a2 a3) ++ [x] by rw [List.take_add_one, HXX.out, List.filter_append]; simp [impl_EntriesBetween.keep, ← hcl, ← hch, hge, hlt3])
            clear hcl hch hbx
            go_upto_region 6 with (fail)
            refine Fl.startL [.take 0, .take 1, .one 2, .one 3] (by decide) HI.out ?_
            refine Fl.take (some 22) (v := .pointer (some ⟨b, o + i * 20, none⟩)) rfl rfl (Or.inl ⟨by rfl, fun _ _ => by first | rfl | (go_simp; done) | (go_simp; rfl) | (go_simp; omega)⟩) ?_
            simp only [Act.put, Fl.z1, Fl.z2, Fl.z3]
            refine Fl.take (some 23) (v := .agg (Ky.ec x)) rfl rfl (yieldsIf_load_mid (by rfl) 66 _ rfl b (o + i * 20) rfl (Ky.ec x).toList _ (fun W1 hW1 => Ky.range_below HCx.out hW1.bel) Try.underlying66 rfl (by rw [Array.length_toList]; exact Ky.hEk HKx.out)) ?_
            simp only [Act.put, Fl.z1, Fl.z2, Fl.z3]
            refine Fl.var (N := 12) (cs := Ky.ec Ky.En0) (t := 66) ⟨_, rfl, rfl, fun _ => rfl, fun e w => by go_simp; rfl⟩ (fun be => ?_)
            simp only [Act.put, Fl.z1, Fl.z2, Fl.z3]
            refine Fl.store 0 (Ky.ec x) rfl rfl rfl rfl _ _ _ rfl rfl rfl (by rfl) (by rw [Ky.ec_size HKx.out, Ky.ec_size Ky.key_0]) (Ky.hEk HKx.out) (Ky.ec_one x) ?_
            refine Fl.stop (fun W hi => ?_)
            replace HI := Lib.hid hi
            clear hi
            go_upto_region 7 with (fail)
            refine Fl.startL [.take 0, .take 1, .take 2, .one 3, .take 4, .take 5, .take 6, .take 7, .take 8, .one 9, .take 10, .take 11] (by decide) HI.out ?_
            refine Fl.take (some 24) (v := .pointer (some ⟨be, 0, none⟩)) rfl rfl (Or.inl ⟨by rfl, fun _ _ => by first | rfl | (go_simp; done) | (go_simp; rfl) | (go_simp; omega)⟩) ?_
            simp only [Act.put, Fl.z1, Fl.z2, Fl.z3]
            refine Fl.take (some 25) (v := .agg (Ky.bs x.key)) rfl rfl (Fl.ldP 0 0 (Ky.bs x.key) rfl (by rfl) _ _ rfl rfl (Ky.ec_key HKx.out) Ky.hK rfl (Ky.hKk HKx.out)) ?_
            simp only [Act.put, Fl.z1, Fl.z2, Fl.z3]
            refine Fl.take (some 26) (v := .agg (Ky.bs a2)) rfl rfl (Fl.ld 3 rfl (by rfl) _ _ rfl rfl Ky.hK rfl (Ky.hKk HA2.out)) ?_
            simp only [Act.put, Fl.z1, Fl.z2, Fl.z3]
            refine Fl.call (some 27) Try.func41 (by kernel_rfl) rfl #[.agg (Ky.bs x.key), .agg (Ky.bs a2)] rfl rfl rfl (by rfl) rfl (fun E W hE hi => ?_)
            refine (impl_compareKeys.calls x.key a2 cl W HKx.out HA2.out HL.out).mono ?_
            rintro e W' ⟨rfl, hb⟩
            refine Fl.keep (v := .int .i64 cl) hi hb ?_
            clear hi hb hE
            simp only [Act.put, Fl.z1, Fl.z2, Fl.z3]
            refine Fl.take (some 28) (v := .bool true) rfl rfl (Or.inl ⟨by rfl, fun _ _ => by first | rfl | (go_simp; done) | (go_simp; rfl) | (go_simp; omega)⟩) ?_
            simp only [Act.put, Fl.z1, Fl.z2, Fl.z3]
            refine Fl.take (some 29) (v := .bool true) rfl rfl (Or.inl ⟨by rfl, fun _ _ => by rfl⟩) ?_
            simp only [Act.put, Fl.z1, Fl.z2, Fl.z3]
            refine Fl.take (some 30) (v := .pointer (some ⟨be, 0, none⟩)) rfl rfl (Or.inl ⟨by rfl, fun _ _ => by first | rfl | (go_simp; done) | (go_simp; rfl) | (go_simp; omega)⟩) ?_
            simp only [Act.put, Fl.z1, Fl.z2, Fl.z3]
            refine Fl.take (some 31) (v := .agg (Ky.bs x.key)) rfl rfl (Fl.ldP 0 0 (Ky.bs x.key) rfl (by rfl) _ _ rfl rfl (Ky.ec_key HKx.out) Ky.hK rfl (Ky.hKk HKx.out)) ?_
            simp only [Act.put, Fl.z1, Fl.z2, Fl.z3]
            refine Fl.take (some 32) (v := .agg (Ky.bs a3)) rfl rfl (Fl.ld 2 rfl (by rfl) _ _ rfl rfl Ky.hK rfl (Ky.hKk HA3.out)) ?_
            simp only [Act.put, Fl.z1, Fl.z2, Fl.z3]
            refine Fl.call (some 33) Try.func41 (by kernel_rfl) rfl #[.agg (Ky.bs x.key), .agg (Ky.bs a3)] rfl rfl rfl (by rfl) rfl (fun E W hE hi => ?_)
            refine (impl_compareKeys.calls x.key a3 ch W HKx.out HA3.out HH3.out).mono ?_
            rintro e W' ⟨rfl, hb⟩
            refine Fl.keep (v := .int .i64 ch) hi hb ?_
            clear hi hb hE
            simp only [Act.put, Fl.z1, Fl.z2, Fl.z3]
            refine Fl.take (some 34) (v := .bool true) rfl rfl (Or.inl ⟨by rfl, fun _ _ => by first | rfl | (go_simp; done) | (go_simp; rfl) | (go_simp; omega)⟩) ?_
            simp only [Act.put, Fl.z1, Fl.z2, Fl.z3]
            refine Fl.take (some 35) (v := .bool true) rfl rfl (Or.inl ⟨by rfl, fun _ _ => by rfl⟩) ?_
            simp only [Act.put, Fl.z1, Fl.z2, Fl.z3]
            refine Fl.stop (fun W hi => ?_)
            replace HI := Lib.hid hi
            clear hi
            replace HI := Lib.hid (Fl.inv_perm HI.out (List.Perm.swap _ _ _))
            go_upto_region 8 with (fail)
            refine Rg.startL (S := fun W => Lv.Inv w W (Lv.boxF be (Ky.ec x) 66 :: [Lv.boxF (w.heap.size + 2) (Ky.bs a3) 26, Lv.boxF (w.heap.size + 1) (Ky.bs a2) 26, Lv.boxF (w.heap.size) #[.slice A0_0 l0_0.length c0_0] 32])) [.take 0, .take 1, .one 2, .one 3, .take 4] (by decide) HI.out.tail ?_
            refine ⟨_, u10, rfl, (Or.inl ⟨by rfl, fun _ _ => by rfl⟩), ?_⟩
            simp only [Act.put, Fl.z1, Fl.z2, Fl.z3]
            refine ⟨_, .agg (Ky.ec x), rfl, (Fl.ld 0 rfl (by rfl) _ _ rfl rfl Try.underlying66 rfl (Ky.hEk HKx.out)), ?_⟩
            simp only [Act.put, Fl.z1, Fl.z2, Fl.z3]
            refine Fl.seqAppend (d := Ky.ke) (e := 66) (t := 29) (bytes := 48) (p := x) (cs := (Ky.ec x).toList) HI.out rfl rfl (by rfl) (fun W => Ky.exec_build1 HKx.out _ rfl rfl W) rfl rfl (fun _ => by rfl) rfl Try.underlying29 Ky.hEinfo rfl (by decide) (by decide) (fun _ => rfl) (fun _ => rfl) (fun W base => Ky.ke_mkM HKx.out W base _) (by have h_ := List.length_filter_le (impl_EntriesBetween.keep a2 a3) (l1.take i); rw [List.length_take] at h_; have := HM.out; have := HN.out; omega) (fun u v1 w1 hi => ?_)
            simp only [Act.put, Fl.z1, Fl.z2, Fl.z3]
            refine ⟨_, v1, rfl, (Or.inl ⟨by rfl, fun _ _ => by rfl⟩), ?_⟩
            simp only [Act.put, Fl.z1, Fl.z2, Fl.z3]
            have HI2 := Lib.hid (Fl.inv_perm hi (List.Perm.swap _ _ _))
            clear hi
            refine Rg.doneL ?_
            go_wp2
            go_roundg (n - (i + 1))
            case measure => have := HK.out; omega
            case rel => exact ⟨i + 1, v1, rfl, by go_num, Lib.hid (by have := HK.out; omega), Lib.hid (by rw [HF.out]; exact HI2.out.tail)⟩
          · have HF := Lib.hid (show (l1.take (i + 1)).filter (impl_EntriesBetween.keep a2 a3) = (l1.take i).filter (impl_EntriesBetween.keep a2 a3) by rw [List.take_add_one, HXX.out, List.filter_append]; simp [impl_EntriesBetween.keep, ← hcl, ← hch, hge, hlt3])
            clear hcl hch hbx
            go_upto_region 6 with (fail)
            refine Fl.startL [.take 0, .take 1, .one 2, .one 3] (by decide) HI.out ?_
            refine Fl.take (some 22) (v := .pointer (some ⟨b, o + i * 20, none⟩)) rfl rfl (Or.inl ⟨by rfl, fun _ _ => by first | rfl | (go_simp; done) | (go_simp; rfl) | (go_simp; omega)⟩) ?_
            simp only [Act.put, Fl.z1, Fl.z2, Fl.z3]
            refine Fl.take (some 23) (v := .agg (Ky.ec x)) rfl rfl (yieldsIf_load_mid (by rfl) 66 _ rfl b (o + i * 20) rfl (Ky.ec x).toList _ (fun W1 hW1 => Ky.range_below HCx.out hW1.bel) Try.underlying66 rfl (by rw [Array.length_toList]; exact Ky.hEk HKx.out)) ?_
            simp only [Act.put, Fl.z1, Fl.z2, Fl.z3]
            refine Fl.var (N := 12) (cs := Ky.ec Ky.En0) (t := 66) ⟨_, rfl, rfl, fun _ => rfl, fun e w => by go_simp; rfl⟩ (fun be => ?_)
            simp only [Act.put, Fl.z1, Fl.z2, Fl.z3]
            refine Fl.store 0 (Ky.ec x) rfl rfl rfl rfl _ _ _ rfl rfl rfl (by rfl) (by rw [Ky.ec_size HKx.out, Ky.ec_size Ky.key_0]) (Ky.hEk HKx.out) (Ky.ec_one x) ?_
            refine Fl.stop (fun W hi => ?_)
            replace HI := Lib.hid hi
            clear hi
            go_upto_region 7 with (fail)
            refine Fl.startL [.take 0, .take 1, .take 2, .one 3, .take 4, .take 5, .take 6, .take 7, .take 8, .one 9, .take 10, .take 11] (by decide) HI.out ?_
            refine Fl.take (some 24) (v := .pointer (some ⟨be, 0, none⟩)) rfl rfl (Or.inl ⟨by rfl, fun _ _ => by first | rfl | (go_simp; done) | (go_simp; rfl) | (go_simp; omega)⟩) ?_
            simp only [Act.put, Fl.z1, Fl.z2, Fl.z3]
            refine Fl.take (some 25) (v := .agg (Ky.bs x.key)) rfl rfl (Fl.ldP 0 0 (Ky.bs x.key) rfl (by rfl) _ _ rfl rfl (Ky.ec_key HKx.out) Ky.hK rfl (Ky.hKk HKx.out)) ?_
            simp only [Act.put, Fl.z1, Fl.z2, Fl.z3]
            refine Fl.take (some 26) (v := .agg (Ky.bs a2)) rfl rfl (Fl.ld 3 rfl (by rfl) _ _ rfl rfl Ky.hK rfl (Ky.hKk HA2.out)) ?_
            simp only [Act.put, Fl.z1, Fl.z2, Fl.z3]
            refine Fl.call (some 27) Try.func41 (by kernel_rfl) rfl #[.agg (Ky.bs x.key), .agg (Ky.bs a2)] rfl rfl rfl (by rfl) rfl (fun E W hE hi => ?_)
            refine (impl_compareKeys.calls x.key a2 cl W HKx.out HA2.out HL.out).mono ?_
            rintro e W' ⟨rfl, hb⟩
            refine Fl.keep (v := .int .i64 cl) hi hb ?_
            clear hi hb hE
            simp only [Act.put, Fl.z1, Fl.z2, Fl.z3]
            refine Fl.take (some 28) (v := .bool true) rfl rfl (Or.inl ⟨by rfl, fun _ _ => by first | rfl | (go_simp; done) | (go_simp; rfl) | (go_simp; omega)⟩) ?_
            simp only [Act.put, Fl.z1, Fl.z2, Fl.z3]
            refine Fl.take (some 29) (v := .bool true) rfl rfl (Or.inl ⟨by rfl, fun _ _ => by rfl⟩) ?_
            simp only [Act.put, Fl.z1, Fl.z2, Fl.z3]
            refine Fl.take (some 30) (v := .pointer (some ⟨be, 0, none⟩)) rfl rfl (Or.inl ⟨by rfl, fun _ _ => by first | rfl | (go_simp; done) | (go_simp; rfl) | (go_simp; omega)⟩) ?_
            simp only [Act.put, Fl.z1, Fl.z2, Fl.z3]
            refine Fl.take (some 31) (v := .agg (Ky.bs x.key)) rfl rfl (Fl.ldP 0 0 (Ky.bs x.key) rfl (by rfl) _ _ rfl rfl (Ky.ec_key HKx.out) Ky.hK rfl (Ky.hKk HKx.out)) ?_
            simp only [Act.put, Fl.z1, Fl.z2, Fl.z3]
            refine Fl.take (some 32) (v := .agg (Ky.bs a3)) rfl rfl (Fl.ld 2 rfl (by rfl) _ _ rfl rfl Ky.hK rfl (Ky.hKk HA3.out)) ?_
            simp only [Act.put, Fl.z1, Fl.z2, Fl.z3]
            refine Fl.call (some 33) Try.func41 (by kernel_rfl) rfl #[.agg (Ky.bs x.key), .agg (Ky.bs a3)] rfl rfl rfl (by rfl) rfl (fun E W hE hi => ?_)
            refine (impl_compareKeys.calls x.key a3 ch W HKx.out HA3.out HH3.out).mono ?_
            rintro e W' ⟨rfl, hb⟩
            refine Fl.keep (v := .int .i64 ch) hi hb ?_
            clear hi hb hE
            simp only [Act.put, Fl.z1, Fl.z2, Fl.z3]
            refine Fl.take (some 34) (v := .bool false) rfl rfl (Or.inl ⟨by rfl, fun _ _ => by first | rfl | (go_simp; done) | (go_simp; rfl) | (go_simp; omega)⟩) ?_
            simp only [Act.put, Fl.z1, Fl.z2, Fl.z3]
            refine Fl.take (some 35) (v := .bool false) rfl rfl (Or.inl ⟨by rfl, fun _ _ => by rfl⟩) ?_
            simp only [Act.put, Fl.z1, Fl.z2, Fl.z3]
            refine Fl.stop (fun W hi => ?_)
            replace HI := Lib.hid hi
            clear hi
            go_wp2
            go_roundg (n - (i + 1))
            case measure => have := HK.out; omega
            case rel => exact ⟨i + 1, u10, rfl, by go_num, Lib.hid (by have := HK.out; omega), Lib.hid (by rw [HF.out]; exact HI.out.tail)⟩
        · have HF := Lib.hid (show (l1.take (i + 1)).filter (impl_EntriesBetween.keep a2 a3) = (l1.take i).filter (impl_EntriesBetween.keep a2 a3) by rw [List.take_add_one, HXX.out, List.filter_append]; simp [impl_EntriesBetween.keep, ← hcl, hge])
          clear hcl hbx
          go_upto_region 6 with (fail)
          refine Fl.startL [.take 0, .take 1, .one 2, .one 3] (by decide) HI.out ?_
          refine Fl.take (some 22) (v := .pointer (some ⟨b, o + i * 20, none⟩)) rfl rfl (Or.inl ⟨by rfl, fun _ _ => by first | rfl | (go_simp; done) | (go_simp; rfl) | (go_simp; omega)⟩) ?_
          simp only [Act.put, Fl.z1, Fl.z2, Fl.z3]
          refine Fl.take (some 23) (v := .agg (Ky.ec x)) rfl rfl (yieldsIf_load_mid (by rfl) 66 _ rfl b (o + i * 20) rfl (Ky.ec x).toList _ (fun W1 hW1 => Ky.range_below HCx.out hW1.bel) Try.underlying66 rfl (by rw [Array.length_toList]; exact Ky.hEk HKx.out)) ?_
          simp only [Act.put, Fl.z1, Fl.z2, Fl.z3]
          refine Fl.var (N := 12) (cs := Ky.ec Ky.En0) (t := 66) ⟨_, rfl, rfl, fun _ => rfl, fun e w => by go_simp; rfl⟩ (fun be => ?_)
          simp only [Act.put, Fl.z1, Fl.z2, Fl.z3]
          refine Fl.store 0 (Ky.ec x) rfl rfl rfl rfl _ _ _ rfl rfl rfl (by rfl) (by rw [Ky.ec_size HKx.out, Ky.ec_size Ky.key_0]) (Ky.hEk HKx.out) (Ky.ec_one x) ?_
          refine Fl.stop (fun W hi => ?_)
          replace HI := Lib.hid hi
          clear hi
          go_upto_region 7 with (fail)
          refine Fl.startL [.take 0, .take 1, .take 2, .one 3, .take 4, .take 5, .take 6, .take 7, .take 8, .take 9, .take 10, .take 11] (by decide) HI.out ?_
          refine Fl.take (some 24) (v := .pointer (some ⟨be, 0, none⟩)) rfl rfl (Or.inl ⟨by rfl, fun _ _ => by first | rfl | (go_simp; done) | (go_simp; rfl) | (go_simp; omega)⟩) ?_
          simp only [Act.put, Fl.z1, Fl.z2, Fl.z3]
          refine Fl.take (some 25) (v := .agg (Ky.bs x.key)) rfl rfl (Fl.ldP 0 0 (Ky.bs x.key) rfl (by rfl) _ _ rfl rfl (Ky.ec_key HKx.out) Ky.hK rfl (Ky.hKk HKx.out)) ?_
          simp only [Act.put, Fl.z1, Fl.z2, Fl.z3]
          refine Fl.take (some 26) (v := .agg (Ky.bs a2)) rfl rfl (Fl.ld 3 rfl (by rfl) _ _ rfl rfl Ky.hK rfl (Ky.hKk HA2.out)) ?_
          simp only [Act.put, Fl.z1, Fl.z2, Fl.z3]
          refine Fl.call (some 27) Try.func41 (by kernel_rfl) rfl #[.agg (Ky.bs x.key), .agg (Ky.bs a2)] rfl rfl rfl (by rfl) rfl (fun E W hE hi => ?_)
          refine (impl_compareKeys.calls x.key a2 cl W HKx.out HA2.out HL.out).mono ?_
          rintro e W' ⟨rfl, hb⟩
          refine Fl.keep (v := .int .i64 cl) hi hb ?_
          clear hi hb hE
          simp only [Act.put, Fl.z1, Fl.z2, Fl.z3]
          refine Fl.take (some 28) (v := .bool false) rfl rfl (Or.inl ⟨by rfl, fun _ _ => by first | rfl | (go_simp; done) | (go_simp; rfl) | (go_simp; omega)⟩) ?_
          simp only [Act.put, Fl.z1, Fl.z2, Fl.z3]
          refine Fl.take (some 29) (v := .bool false) rfl rfl (Or.inl ⟨by rfl, fun _ _ => by rfl⟩) ?_
          simp only [Act.put, Fl.z1, Fl.z2, Fl.z3]
          refine Fl.take (some 30) (v := undef) rfl rfl (Or.inr ⟨by rfl, rfl⟩) ?_
          simp only [Act.put, Fl.z1, Fl.z2, Fl.z3]
          refine Fl.take (some 31) (v := undef) rfl rfl (Or.inr ⟨by rfl, rfl⟩) ?_
          simp only [Act.put, Fl.z1, Fl.z2, Fl.z3]
          refine Fl.take (some 32) (v := undef) rfl rfl (Or.inr ⟨by rfl, rfl⟩) ?_
          simp only [Act.put, Fl.z1, Fl.z2, Fl.z3]
          refine Fl.take (some 33) (v := undef) rfl rfl (Or.inr ⟨by rfl, rfl⟩) ?_
          simp only [Act.put, Fl.z1, Fl.z2, Fl.z3]
          refine Fl.take (some 34) (v := undef) rfl rfl (Or.inr ⟨by rfl, rfl⟩) ?_
          simp only [Act.put, Fl.z1, Fl.z2, Fl.z3]
          refine Fl.take (some 35) (v := .bool false) rfl rfl (Or.inl ⟨by rfl, fun _ _ => by rfl⟩) ?_
          simp only [Act.put, Fl.z1, Fl.z2, Fl.z3]
          refine Fl.stop (fun W hi => ?_)
          replace HI := Lib.hid hi
          clear hi
          go_wp2
          go_roundg (n - (i + 1))
          case measure => have := HK.out; omega
          case rel => exact ⟨i + 1, u10, rfl, by go_num, Lib.hid (by have := HK.out; omega), Lib.hid (by rw [HF.out]; exact HI.out.tail)⟩
      · have hin : i = n := by have := HK.out; omega
        have HT := Lib.hid (show l1.take i = l1 from List.take_of_length_le (by have := HN.out; omega))
        clear hlt
        subst hin
        go_wp2
        go_ret2
        obtain ⟨S, _, hR⟩ := HI.out.get 0 rfl
        rw [HT.out] at hR
        exact ⟨_, rfl, Kd.R_mono hR (fun _ _ => trivial), HI.out.bel⟩

/-! ### laws_eqByteA16: function 70 (by hand) -/
def laws_eqByteA16.f (a0 : List Int) (a1 : List Int) : Option Bool := some (decide (a0 = a1))
theorem laws_eqByteA16.calls (a0 : List Int) (a1 : List Int) (r : Bool) (w : World) (hk0 : Ky.Key a0) (hk1 : Ky.Key a1) (h : laws_eqByteA16.f a0 a1 = some r) :
    Calls Try.prog 70 #[.agg (Ky.bs a0), .agg (Ky.bs a1)] w fun e w' => e = .returned (.bool r) ∧ Below w.heap.size w w' := by
  obtain rfl := Option.some.inj h
  exact Ky.eqKey a0 a1 hk0 hk1 w

open Go.Proofs.Ytkifenbcepicjaa.Cp
/-! ### laws_eqWindow: function 71 -/
def laws_eqWindow.f (a0_0 : Int) (a0_1 : Int) (a0_2 : Int) (a0_3 : Int) (a1_0 : Int) (a1_1 : Int) (a1_2 : Int) (a1_3 : Int) : Option (Bool) := if a0_0 = a1_0 then (if a0_1 = a1_1 then (if a0_2 = a1_2 then (if a0_3 = a1_3 then (some true) else (some false)) else (some false)) else (some false)) else (some false)
set_option maxHeartbeats 8000000 in
set_option maxRecDepth 100000 in
theorem laws_eqWindow.calls (a0_0 : Int) (a0_1 : Int) (a0_2 : Int) (a0_3 : Int) (a1_0 : Int) (a1_1 : Int) (a1_2 : Int) (a1_3 : Int) (r : Bool) (w : World) (h : laws_eqWindow.f a0_0 a0_1 a0_2 a0_3 a1_0 a1_1 a1_2 a1_3 = some r) :
  Calls Try.prog 71 #[.agg #[.int .i64 a0_0, .int .i64 a0_1, .int .i64 a0_2, .int .i64 a0_3], .agg #[.int .i64 a1_0, .int .i64 a1_1, .int .i64 a1_2, .int .i64 a1_3]] w fun e w' => e = .returned (.bool r) ∧ Below w.heap.size w w' := by
 have hu54 := Try.underlying54
 have HB := Aside0.mk (Below.refl w.heap.size w)
 have H : (if a0_0 = a1_0 then (if a0_1 = a1_1 then (if a0_2 = a1_2 then (if a0_3 = a1_3 then (some true) else (some false)) else (some false)) else (some false)) else (some false)) = some r := h
 clear h
 by_cases c3 : a0_0 = a1_0
 ·rw [if_pos c3] at H
  have c3b0 : (a0_0 == a1_0) = true := beq_iff_eq.mpr c3
  have c3b1 : (a0_0 != a1_0) = false := bne_eq_false_iff_eq.mpr c3
  clear c3
  by_cases c4 : a0_1 = a1_1
  ·rw [if_pos c4] at H
   have c4b0 : (a0_1 == a1_1) = true := beq_iff_eq.mpr c4
   have c4b1 : (a0_1 != a1_1) = false := bne_eq_false_iff_eq.mpr c4
   clear c4
   by_cases c5 : a0_2 = a1_2
   ·rw [if_pos c5] at H
    have c5b0 : (a0_2 == a1_2) = true := beq_iff_eq.mpr c5
    have c5b1 : (a0_2 != a1_2) = false := bne_eq_false_iff_eq.mpr c5
    clear c5
    by_cases c6 : a0_3 = a1_3
    ·rw [if_pos c6] at H
     have c6b0 : (a0_3 == a1_3) = true := beq_iff_eq.mpr c6
     have c6b1 : (a0_3 != a1_3) = false := bne_eq_false_iff_eq.mpr c6
     clear c6
     obtain rfl := Option.some.inj H
     go_enter Try.func71, Try.ntmps71
     go_wp2_with (first | ((with_reducible refine gate_dst (N := 2) rfl ?_); refine box_event ?hg (N := 2) ?hd (cs := #[.int .i64 a0_0, .int .i64 a0_1, .int .i64 a0_2, .int .i64 a0_3]) (t := 54) ?hr ?_; (case hd => rfl); (case hg => rfl); (case hr => first | (go_simp; done) | (go_simp; rfl)); intro gb150 hg w7 hbox hb; have BK150 := Aside0.mk (hbox); have GW150 := zge HB hg; have GE150 := zge HB hg; replace HB := zhs HB hb; clear hb hbox hg) | ((with_reducible refine gate_dst (N := 3) rfl ?_); refine box_event ?hg (N := 3) ?hd (cs := #[.int .i64 a1_0, .int .i64 a1_1, .int .i64 a1_2, .int .i64 a1_3]) (t := 54) ?hr ?_; (case hd => rfl); (case hg => rfl); (case hr => first | (go_simp; done) | (go_simp; rfl)); intro gb151 hg w8 hbox hb; have BK151 := Aside0.mk (hbox); have GW151 := zge HB hg; have GE151 := zge HB hg; have NB150_151 := znl BK150 hg; have NB151_150 := znr BK150 hg; replace BK150 := zb0 BK150 hb; replace HB := zhs HB hb; clear hb hbox hg; have hnb9 := NB150_151.out; have hnc9 := NB151_150.out; have hcz10_0 := zc0 BK150 0 rfl; have hcz10_1 := zc0 BK150 1 rfl; have hcz10_2 := zc0 BK150 2 rfl; have hcz10_3 := zc0 BK150 3 rfl; have hfz10_0 := blk_frozen BK150.out 0; have hfz10_1 := blk_frozen BK150.out 1; have hfz10_2 := blk_frozen BK150.out 2; have hfz10_3 := blk_frozen BK150.out 3; have hcz11_0 := zc0 BK151 0 rfl; have hcz11_1 := zc0 BK151 1 rfl; have hcz11_2 := zc0 BK151 2 rfl; have hcz11_3 := zc0 BK151 3 rfl; have hfz11_0 := blk_frozen BK151.out 0; have hfz11_1 := blk_frozen BK151.out 1; have hfz11_2 := blk_frozen BK151.out 2; have hfz11_3 := blk_frozen BK151.out 3))
     go_ret
     exact ⟨by first | rfl | (simp <;> rfl) | (simp [*] <;> rfl), by repeat (first | exact zh0 HB | refine below_set ?_ GE150.out | refine below_set ?_ GE151.out)⟩
    ·rw [if_neg c6] at H
     have c6b0 : (a0_3 == a1_3) = false := beq_eq_false_iff_ne.mpr c6
     have c6b1 : (a0_3 != a1_3) = true := bne_iff_ne.mpr c6
     obtain rfl := Option.some.inj H
     go_enter Try.func71, Try.ntmps71
     go_wp2_with (first | ((with_reducible refine gate_dst (N := 2) rfl ?_); refine box_event ?hg (N := 2) ?hd (cs := #[.int .i64 a0_0, .int .i64 a0_1, .int .i64 a0_2, .int .i64 a0_3]) (t := 54) ?hr ?_; (case hd => rfl); (case hg => rfl); (case hr => first | (go_simp; done) | (go_simp; rfl)); intro gb150 hg w12 hbox hb; have BK150 := Aside0.mk (hbox); have GW150 := zge HB hg; have GE150 := zge HB hg; replace HB := zhs HB hb; clear hb hbox hg) | ((with_reducible refine gate_dst (N := 3) rfl ?_); refine box_event ?hg (N := 3) ?hd (cs := #[.int .i64 a1_0, .int .i64 a1_1, .int .i64 a1_2, .int .i64 a1_3]) (t := 54) ?hr ?_; (case hd => rfl); (case hg => rfl); (case hr => first | (go_simp; done) | (go_simp; rfl)); intro gb151 hg w13 hbox hb; have BK151 := Aside0.mk (hbox); have GW151 := zge HB hg; have GE151 := zge HB hg; have NB150_151 := znl BK150 hg; have NB151_150 := znr BK150 hg; replace BK150 := zb0 BK150 hb; replace HB := zhs HB hb; clear hb hbox hg; have hnb14 := NB150_151.out; have hnc14 := NB151_150.out; have hcz15_0 := zc0 BK150 0 rfl; have hcz15_1 := zc0 BK150 1 rfl; have hcz15_2 := zc0 BK150 2 rfl; have hcz15_3 := zc0 BK150 3 rfl; have hfz15_0 := blk_frozen BK150.out 0; have hfz15_1 := blk_frozen BK150.out 1; have hfz15_2 := blk_frozen BK150.out 2; have hfz15_3 := blk_frozen BK150.out 3; have hcz16_0 := zc0 BK151 0 rfl; have hcz16_1 := zc0 BK151 1 rfl; have hcz16_2 := zc0 BK151 2 rfl; have hcz16_3 := zc0 BK151 3 rfl; have hfz16_0 := blk_frozen BK151.out 0; have hfz16_1 := blk_frozen BK151.out 1; have hfz16_2 := blk_frozen BK151.out 2; have hfz16_3 := blk_frozen BK151.out 3))
     go_ret
     exact ⟨by first | rfl | (simp <;> rfl) | (simp [*] <;> rfl), by repeat (first | exact zh0 HB | refine below_set ?_ GE150.out | refine below_set ?_ GE151.out)⟩
   ·rw [if_neg c5] at H
    have c5b0 : (a0_2 == a1_2) = false := beq_eq_false_iff_ne.mpr c5
    have c5b1 : (a0_2 != a1_2) = true := bne_iff_ne.mpr c5
    obtain rfl := Option.some.inj H
    go_enter Try.func71, Try.ntmps71
    go_wp2_with (first | ((with_reducible refine gate_dst (N := 2) rfl ?_); refine box_event ?hg (N := 2) ?hd (cs := #[.int .i64 a0_0, .int .i64 a0_1, .int .i64 a0_2, .int .i64 a0_3]) (t := 54) ?hr ?_; (case hd => rfl); (case hg => rfl); (case hr => first | (go_simp; done) | (go_simp; rfl)); intro gb150 hg w17 hbox hb; have BK150 := Aside0.mk (hbox); have GW150 := zge HB hg; have GE150 := zge HB hg; replace HB := zhs HB hb; clear hb hbox hg) | ((with_reducible refine gate_dst (N := 3) rfl ?_); refine box_event ?hg (N := 3) ?hd (cs := #[.int .i64 a1_0, .int .i64 a1_1, .int .i64 a1_2, .int .i64 a1_3]) (t := 54) ?hr ?_; (case hd => rfl); (case hg => rfl); (case hr => first | (go_simp; done) | (go_simp; rfl)); intro gb151 hg w18 hbox hb; have BK151 := Aside0.mk (hbox); have GW151 := zge HB hg; have GE151 := zge HB hg; have NB150_151 := znl BK150 hg; have NB151_150 := znr BK150 hg; replace BK150 := zb0 BK150 hb; replace HB := zhs HB hb; clear hb hbox hg; have hnb19 := NB150_151.out; have hnc19 := NB151_150.out; have hcz20_0 := zc0 BK150 0 rfl; have hcz20_1 := zc0 BK150 1 rfl; have hcz20_2 := zc0 BK150 2 rfl; have hcz20_3 := zc0 BK150 3 rfl; have hfz20_0 := blk_frozen BK150.out 0; have hfz20_1 := blk_frozen BK150.out 1; have hfz20_2 := blk_frozen BK150.out 2; have hfz20_3 := blk_frozen BK150.out 3; have hcz21_0 := zc0 BK151 0 rfl; have hcz21_1 := zc0 BK151 1 rfl; have hcz21_2 := zc0 BK151 2 rfl; have hcz21_3 := zc0 BK151 3 rfl; have hfz21_0 := blk_frozen BK151.out 0; have hfz21_1 := blk_frozen BK151.out 1; have hfz21_2 := blk_frozen BK151.out 2; have hfz21_3 := blk_frozen BK151.out 3))
    go_ret
    exact ⟨by first | rfl | (simp <;> rfl) | (simp [*] <;> rfl), by repeat (first | exact zh0 HB | refine below_set ?_ GE150.out | refine below_set ?_ GE151.out)⟩
  ·rw [if_neg c4] at H
   have c4b0 : (a0_1 == a1_1) = false := beq_eq_false_iff_ne.mpr c4
   have c4b1 : (a0_1 != a1_1) = true := bne_iff_ne.mpr c4
   obtain rfl := Option.some.inj H
   go_enter Try.func71, Try.ntmps71
   go_wp2_with (first | ((with_reducible refine gate_dst (N := 2) rfl ?_); refine box_event ?hg (N := 2) ?hd (cs := #[.int .i64 a0_0, .int .i64 a0_1, .int .i64 a0_2, .int .i64 a0_3]) (t := 54) ?hr ?_; (case hd => rfl); (case hg => rfl); (case hr => first | (go_simp; done) | (go_simp; rfl)); intro gb150 hg w22 hbox hb; have BK150 := Aside0.mk (hbox); have GW150 := zge HB hg; have GE150 := zge HB hg; replace HB := zhs HB hb; clear hb hbox hg) | ((with_reducible refine gate_dst (N := 3) rfl ?_); refine box_event ?hg (N := 3) ?hd (cs := #[.int .i64 a1_0, .int .i64 a1_1, .int .i64 a1_2, .int .i64 a1_3]) (t := 54) ?hr ?_; (case hd => rfl); (case hg => rfl); (case hr => first | (go_simp; done) | (go_simp; rfl)); intro gb151 hg w23 hbox hb; have BK151 := Aside0.mk (hbox); have GW151 := zge HB hg; have GE151 := zge HB hg; have NB150_151 := znl BK150 hg; have NB151_150 := znr BK150 hg; replace BK150 := zb0 BK150 hb; replace HB := zhs HB hb; clear hb hbox hg; have hnb24 := NB150_151.out; have hnc24 := NB151_150.out; have hcz25_0 := zc0 BK150 0 rfl; have hcz25_1 := zc0 BK150 1 rfl; have hcz25_2 := zc0 BK150 2 rfl; have hcz25_3 := zc0 BK150 3 rfl; have hfz25_0 := blk_frozen BK150.out 0; have hfz25_1 := blk_frozen BK150.out 1; have hfz25_2 := blk_frozen BK150.out 2; have hfz25_3 := blk_frozen BK150.out 3; have hcz26_0 := zc0 BK151 0 rfl; have hcz26_1 := zc0 BK151 1 rfl; have hcz26_2 := zc0 BK151 2 rfl; have hcz26_3 := zc0 BK151 3 rfl; have hfz26_0 := blk_frozen BK151.out 0; have hfz26_1 := blk_frozen BK151.out 1; have hfz26_2 := blk_frozen BK151.out 2; have hfz26_3 := blk_frozen BK151.out 3))
   go_ret
   exact ⟨by first | rfl | (simp <;> rfl) | (simp [*] <;> rfl), by repeat (first | exact zh0 HB | refine below_set ?_ GE150.out | refine below_set ?_ GE151.out)⟩
 ·rw [if_neg c3] at H
  have c3b0 : (a0_0 == a1_0) = false := beq_eq_false_iff_ne.mpr c3
  have c3b1 : (a0_0 != a1_0) = true := bne_iff_ne.mpr c3
  obtain rfl := Option.some.inj H
  go_enter Try.func71, Try.ntmps71
  go_wp2_with (first | ((with_reducible refine gate_dst (N := 2) rfl ?_); refine box_event ?hg (N := 2) ?hd (cs := #[.int .i64 a0_0, .int .i64 a0_1, .int .i64 a0_2, .int .i64 a0_3]) (t := 54) ?hr ?_; (case hd => rfl); (case hg => rfl); (case hr => first | (go_simp; done) | (go_simp; rfl)); intro gb150 hg w27 hbox hb; have BK150 := Aside0.mk (hbox); have GW150 := zge HB hg; have GE150 := zge HB hg; replace HB := zhs HB hb; clear hb hbox hg) | ((with_reducible refine gate_dst (N := 3) rfl ?_); refine box_event ?hg (N := 3) ?hd (cs := #[.int .i64 a1_0, .int .i64 a1_1, .int .i64 a1_2, .int .i64 a1_3]) (t := 54) ?hr ?_; (case hd => rfl); (case hg => rfl); (case hr => first | (go_simp; done) | (go_simp; rfl)); intro gb151 hg w28 hbox hb; have BK151 := Aside0.mk (hbox); have GW151 := zge HB hg; have GE151 := zge HB hg; have NB150_151 := znl BK150 hg; have NB151_150 := znr BK150 hg; replace BK150 := zb0 BK150 hb; replace HB := zhs HB hb; clear hb hbox hg; have hnb29 := NB150_151.out; have hnc29 := NB151_150.out; have hcz30_0 := zc0 BK150 0 rfl; have hcz30_1 := zc0 BK150 1 rfl; have hcz30_2 := zc0 BK150 2 rfl; have hcz30_3 := zc0 BK150 3 rfl; have hfz30_0 := blk_frozen BK150.out 0; have hfz30_1 := blk_frozen BK150.out 1; have hfz30_2 := blk_frozen BK150.out 2; have hfz30_3 := blk_frozen BK150.out 3; have hcz31_0 := zc0 BK151 0 rfl; have hcz31_1 := zc0 BK151 1 rfl; have hcz31_2 := zc0 BK151 2 rfl; have hcz31_3 := zc0 BK151 3 rfl; have hfz31_0 := blk_frozen BK151.out 0; have hfz31_1 := blk_frozen BK151.out 1; have hfz31_2 := blk_frozen BK151.out 2; have hfz31_3 := blk_frozen BK151.out 3))
  go_ret
  exact ⟨by first | rfl | (simp <;> rfl) | (simp [*] <;> rfl), by repeat (first | exact zh0 HB | refine below_set ?_ GE150.out | refine below_set ?_ GE151.out)⟩

/-! ### laws_eqEntry: function 42 (by hand) -/
def laws_eqEntry.f (x y : Ky.En) : Option Bool := if x.key = y.key then laws_eqWindow.f x.a x.s x.l x.c y.a y.s y.l y.c else some false
set_option maxHeartbeats 4000000 in
set_option maxRecDepth 100000 in
theorem laws_eqEntry.calls (x y : Ky.En) (r : Bool) (w : World) (hx : Ky.Key x.key) (hy : Ky.Key y.key) (h : laws_eqEntry.f x y = some r) :
    Calls Try.prog 42 #[.agg (Ky.ec x), .agg (Ky.ec y)] w fun e w' => e = .returned (.bool r) ∧ Below w.heap.size w w' := by
  obtain ⟨W0, hW⟩ : ∃ W, W = (w.alloc (.cells (Ky.ec x) 66)).alloc (.cells (Ky.ec y) 66) := ⟨_, rfl⟩
  have HI : Hid (Lv.Inv w W0 [Lv.boxF (w.heap.size + 1) (Ky.ec y) 66, Lv.boxF (w.heap.size) (Ky.ec x) 66]) := by
    subst hW
    have := ((Lv.Inv.refl w).box (Ky.ec x) 66).box (Ky.ec y) 66
    exact Lib.hid (by simpa using this)
  have HX := Lib.hid hx
  have HY := Lib.hid hy
  clear hx hy
  unfold laws_eqEntry.f at h
  by_cases hxy : x.key = y.key
  · rw [if_pos hxy] at h
    have HH := Lib.hid h
    have HQ := Lib.hid (show laws_eqByteA16.f x.key y.key = some true from congrArg some (decide_eq_true hxy))
    clear h hxy
    cases r with
    | true =>
      go_enter Try.func42, Try.ntmps42
      go_upto_region 1 with (fail)
      rw [← hW]
      clear hW
      refine Fl.startL [.take 0, .take 1, .take 2, .take 3, .one 4, .take 5] (by decide) HI.out ?_
      refine Fl.take (some 5) (v := .pointer (some ⟨w.heap.size, 0, none⟩)) rfl rfl (Or.inl ⟨by rfl, fun _ _ => by first | rfl | (go_simp; done) | (go_simp; rfl)⟩) ?_
      simp only [Act.put, Fl.z1, Fl.z2, Fl.z3]
      refine Fl.take (some 6) (v := .agg (Ky.bs x.key)) rfl rfl (Fl.ldP 1 0 (Ky.bs x.key) rfl (by rfl) _ _ rfl rfl (Ky.ec_key HX.out) Ky.hK rfl (Ky.hKk HX.out)) ?_
      simp only [Act.put, Fl.z1, Fl.z2, Fl.z3]
      refine Fl.take (some 7) (v := .pointer (some ⟨w.heap.size + 1, 0, none⟩)) rfl rfl (Or.inl ⟨by rfl, fun _ _ => by first | rfl | (go_simp; done) | (go_simp; rfl)⟩) ?_
      simp only [Act.put, Fl.z1, Fl.z2, Fl.z3]
      refine Fl.take (some 8) (v := .agg (Ky.bs y.key)) rfl rfl (Fl.ldP 0 0 (Ky.bs y.key) rfl (by rfl) _ _ rfl rfl (Ky.ec_key HY.out) Ky.hK rfl (Ky.hKk HY.out)) ?_
      simp only [Act.put, Fl.z1, Fl.z2, Fl.z3]
      refine Fl.call (some 9) Try.func70 (by kernel_rfl) rfl #[.agg (Ky.bs x.key), .agg (Ky.bs y.key)] rfl rfl rfl (by rfl) rfl (fun E W hE hi => ?_)
      refine (laws_eqByteA16.calls x.key y.key true W HX.out HY.out HQ.out).mono ?_
      rintro e W' ⟨rfl, hb⟩
      refine Fl.keep hi hb ?_
      clear hi hb hE
      simp only [Act.put, Fl.z1, Fl.z2, Fl.z3]
      refine Fl.take (some 10) (v := .bool (!true)) rfl rfl (Or.inl ⟨by rfl, fun _ _ => by rfl⟩) ?_
      simp only [Act.put, Fl.z1, Fl.z2, Fl.z3]
      refine Fl.stop (fun W hi => ?_)
      replace HI := Lib.hid hi
      clear hi
      go_upto_region 3 with (fail)
      refine Fl.startL [.take 0, .take 1, .take 2, .take 3, .one 4, .take 5] (by decide) HI.out ?_
      refine Fl.take (some 11) (v := .pointer (some ⟨w.heap.size, 16, none⟩)) rfl rfl (Or.inl ⟨by rfl, fun _ _ => by first | rfl | (go_simp; done) | (go_simp; rfl)⟩) ?_
      simp only [Act.put, Fl.z1, Fl.z2, Fl.z3]
      refine Fl.take (some 12) (v := .agg (Ky.wc x)) rfl rfl (Fl.ldP 1 16 (Ky.wc x) rfl (by rfl) _ _ rfl rfl (Ky.ec_win HX.out) Try.underlying54 rfl (by kernel_rfl)) ?_
      simp only [Act.put, Fl.z1, Fl.z2, Fl.z3]
      refine Fl.take (some 13) (v := .pointer (some ⟨w.heap.size + 1, 16, none⟩)) rfl rfl (Or.inl ⟨by rfl, fun _ _ => by first | rfl | (go_simp; done) | (go_simp; rfl)⟩) ?_
      simp only [Act.put, Fl.z1, Fl.z2, Fl.z3]
      refine Fl.take (some 14) (v := .agg (Ky.wc y)) rfl rfl (Fl.ldP 0 16 (Ky.wc y) rfl (by rfl) _ _ rfl rfl (Ky.ec_win HY.out) Try.underlying54 rfl (by kernel_rfl)) ?_
      simp only [Act.put, Fl.z1, Fl.z2, Fl.z3]
      refine Fl.call (some 15) Try.func71 (by kernel_rfl) rfl #[.agg (Ky.wc x), .agg (Ky.wc y)] rfl rfl rfl (by rfl) rfl (fun E W hE hi => ?_)
      refine (laws_eqWindow.calls x.a x.s x.l x.c y.a y.s y.l y.c true W HH.out).mono ?_
      rintro e W' ⟨rfl, hb⟩
      refine Fl.keep hi hb ?_
      clear hi hb hE
      simp only [Act.put, Fl.z1, Fl.z2, Fl.z3]
      refine Fl.take (some 16) (v := .bool (!true)) rfl rfl (Or.inl ⟨by rfl, fun _ _ => by rfl⟩) ?_
      simp only [Act.put, Fl.z1, Fl.z2, Fl.z3]
      refine Fl.stop (fun W hi => ?_)
      replace HI := Lib.hid hi
      clear hi
      go_wp2
      go_ret
      exact ⟨rfl, HI.out.bel⟩
    | false =>
      go_enter Try.func42, Try.ntmps42
      go_upto_region 1 with (fail)
      rw [← hW]
      clear hW
      refine Fl.startL [.take 0, .take 1, .take 2, .take 3, .one 4, .take 5] (by decide) HI.out ?_
      refine Fl.take (some 5) (v := .pointer (some ⟨w.heap.size, 0, none⟩)) rfl rfl (Or.inl ⟨by rfl, fun _ _ => by first | rfl | (go_simp; done) | (go_simp; rfl)⟩) ?_
      simp only [Act.put, Fl.z1, Fl.z2, Fl.z3]
      refine Fl.take (some 6) (v := .agg (Ky.bs x.key)) rfl rfl (Fl.ldP 1 0 (Ky.bs x.key) rfl (by rfl) _ _ rfl rfl (Ky.ec_key HX.out) Ky.hK rfl (Ky.hKk HX.out)) ?_
      simp only [Act.put, Fl.z1, Fl.z2, Fl.z3]
      refine Fl.take (some 7) (v := .pointer (some ⟨w.heap.size + 1, 0, none⟩)) rfl rfl (Or.inl ⟨by rfl, fun _ _ => by first | rfl | (go_simp; done) | (go_simp; rfl)⟩) ?_
      simp only [Act.put, Fl.z1, Fl.z2, Fl.z3]
      refine Fl.take (some 8) (v := .agg (Ky.bs y.key)) rfl rfl (Fl.ldP 0 0 (Ky.bs y.key) rfl (by rfl) _ _ rfl rfl (Ky.ec_key HY.out) Ky.hK rfl (Ky.hKk HY.out)) ?_
      simp only [Act.put, Fl.z1, Fl.z2, Fl.z3]
      refine Fl.call (some 9) Try.func70 (by kernel_rfl) rfl #[.agg (Ky.bs x.key), .agg (Ky.bs y.key)] rfl rfl rfl (by rfl) rfl (fun E W hE hi => ?_)
      refine (laws_eqByteA16.calls x.key y.key true W HX.out HY.out HQ.out).mono ?_
      rintro e W' ⟨rfl, hb⟩
      refine Fl.keep hi hb ?_
      clear hi hb hE
      simp only [Act.put, Fl.z1, Fl.z2, Fl.z3]
      refine Fl.take (some 10) (v := .bool (!true)) rfl rfl (Or.inl ⟨by rfl, fun _ _ => by rfl⟩) ?_
      simp only [Act.put, Fl.z1, Fl.z2, Fl.z3]
      refine Fl.stop (fun W hi => ?_)
      replace HI := Lib.hid hi
      clear hi
      go_upto_region 3 with (fail)
      refine Fl.startL [.take 0, .take 1, .take 2, .take 3, .one 4, .take 5] (by decide) HI.out ?_
      refine Fl.take (some 11) (v := .pointer (some ⟨w.heap.size, 16, none⟩)) rfl rfl (Or.inl ⟨by rfl, fun _ _ => by first | rfl | (go_simp; done) | (go_simp; rfl)⟩) ?_
      simp only [Act.put, Fl.z1, Fl.z2, Fl.z3]
      refine Fl.take (some 12) (v := .agg (Ky.wc x)) rfl rfl (Fl.ldP 1 16 (Ky.wc x) rfl (by rfl) _ _ rfl rfl (Ky.ec_win HX.out) Try.underlying54 rfl (by kernel_rfl)) ?_
      simp only [Act.put, Fl.z1, Fl.z2, Fl.z3]
      refine Fl.take (some 13) (v := .pointer (some ⟨w.heap.size + 1, 16, none⟩)) rfl rfl (Or.inl ⟨by rfl, fun _ _ => by first | rfl | (go_simp; done) | (go_simp; rfl)⟩) ?_
      simp only [Act.put, Fl.z1, Fl.z2, Fl.z3]
      refine Fl.take (some 14) (v := .agg (Ky.wc y)) rfl rfl (Fl.ldP 0 16 (Ky.wc y) rfl (by rfl) _ _ rfl rfl (Ky.ec_win HY.out) Try.underlying54 rfl (by kernel_rfl)) ?_
      simp only [Act.put, Fl.z1, Fl.z2, Fl.z3]
      refine Fl.call (some 15) Try.func71 (by kernel_rfl) rfl #[.agg (Ky.wc x), .agg (Ky.wc y)] rfl rfl rfl (by rfl) rfl (fun E W hE hi => ?_)
      refine (laws_eqWindow.calls x.a x.s x.l x.c y.a y.s y.l y.c false W HH.out).mono ?_
      rintro e W' ⟨rfl, hb⟩
      refine Fl.keep hi hb ?_
      clear hi hb hE
      simp only [Act.put, Fl.z1, Fl.z2, Fl.z3]
      refine Fl.take (some 16) (v := .bool (!false)) rfl rfl (Or.inl ⟨by rfl, fun _ _ => by rfl⟩) ?_
      simp only [Act.put, Fl.z1, Fl.z2, Fl.z3]
      refine Fl.stop (fun W hi => ?_)
      replace HI := Lib.hid hi
      clear hi
      go_wp2
      go_ret
      exact ⟨rfl, HI.out.bel⟩
  · rw [if_neg hxy] at h
    obtain rfl := Option.some.inj h
    have HQ := Lib.hid (show laws_eqByteA16.f x.key y.key = some false from congrArg some (decide_eq_false hxy))
    clear h hxy
    go_enter Try.func42, Try.ntmps42
    go_upto_region 1 with (fail)
    rw [← hW]
    clear hW
    refine Fl.startL [.take 0, .take 1, .take 2, .take 3, .one 4, .take 5] (by decide) HI.out ?_
    refine Fl.take (some 5) (v := .pointer (some ⟨w.heap.size, 0, none⟩)) rfl rfl (Or.inl ⟨by rfl, fun _ _ => by first | rfl | (go_simp; done) | (go_simp; rfl)⟩) ?_
    simp only [Act.put, Fl.z1, Fl.z2, Fl.z3]
    refine Fl.take (some 6) (v := .agg (Ky.bs x.key)) rfl rfl (Fl.ldP 1 0 (Ky.bs x.key) rfl (by rfl) _ _ rfl rfl (Ky.ec_key HX.out) Ky.hK rfl (Ky.hKk HX.out)) ?_
    simp only [Act.put, Fl.z1, Fl.z2, Fl.z3]
    refine Fl.take (some 7) (v := .pointer (some ⟨w.heap.size + 1, 0, none⟩)) rfl rfl (Or.inl ⟨by rfl, fun _ _ => by first | rfl | (go_simp; done) | (go_simp; rfl)⟩) ?_
    simp only [Act.put, Fl.z1, Fl.z2, Fl.z3]
    refine Fl.take (some 8) (v := .agg (Ky.bs y.key)) rfl rfl (Fl.ldP 0 0 (Ky.bs y.key) rfl (by rfl) _ _ rfl rfl (Ky.ec_key HY.out) Ky.hK rfl (Ky.hKk HY.out)) ?_
    simp only [Act.put, Fl.z1, Fl.z2, Fl.z3]
    refine Fl.call (some 9) Try.func70 (by kernel_rfl) rfl #[.agg (Ky.bs x.key), .agg (Ky.bs y.key)] rfl rfl rfl (by rfl) rfl (fun E W hE hi => ?_)
    refine (laws_eqByteA16.calls x.key y.key false W HX.out HY.out HQ.out).mono ?_
    rintro e W' ⟨rfl, hb⟩
    refine Fl.keep hi hb ?_
    clear hi hb hE
    simp only [Act.put, Fl.z1, Fl.z2, Fl.z3]
    refine Fl.take (some 10) (v := .bool (!false)) rfl rfl (Or.inl ⟨by rfl, fun _ _ => by rfl⟩) ?_
    simp only [Act.put, Fl.z1, Fl.z2, Fl.z3]
    refine Fl.stop (fun W hi => ?_)
    replace HI := Lib.hid hi
    clear hi
    go_wp2
    go_ret
    exact ⟨rfl, HI.out.bel⟩

/-! ### laws_eqEntryS: function 13 (by hand) -/
def laws_eqEntryS.go : List Ky.En → List Ky.En → Option Bool
  | x :: xs, y :: ys => (laws_eqEntry.f x y).bind fun t => if t = true then laws_eqEntryS.go xs ys else some false
  | _, _ => some true
def laws_eqEntryS.f (l0 : List Ky.En) (l1 : List Ky.En) : Option Bool := if l0.length ≤ 1048576 then (if l0.length = l1.length then laws_eqEntryS.go l0 l1 else some false) else none
set_option maxHeartbeats 4000000 in
set_option maxRecDepth 100000 in
theorem laws_eqEntryS.calls (A0 : Option Addr) (c0 : Nat) (l0 : List Ky.En) (A1 : Option Addr) (c1 : Nat) (l1 : List Ky.En) (r : Bool) (w : World) (hr0 : Kd.C Ky.ke w A0 l0.length l0) (hc0 : l0.length ≤ c0) (hr1 : Kd.C Ky.ke w A1 l1.length l1) (hc1 : l1.length ≤ c1) (h : laws_eqEntryS.f l0 l1 = some r) :
    Calls Try.prog 13 #[.slice A0 l0.length c0, .slice A1 l1.length c1] w fun e w' => e = .returned (.bool r) ∧ Below w.heap.size w w' := by
  have hm := hr0.2.1
  have HR0 := Lib.hid hr0
  have HR1 := Lib.hid hr1
  clear hr0 hc0 hr1 hc1
  unfold laws_eqEntryS.f at h
  obtain ⟨hle, h⟩ := Ky.of_condO h
  clear hm
  obtain ⟨n, hn⟩ : ∃ n, n = l0.length := ⟨_, rfl⟩
  obtain ⟨n1, hn1⟩ : ∃ n, n = l1.length := ⟨_, rfl⟩
  have HM := Lib.hid (show n ≤ 1048576 by omega)
  by_cases hl : l0.length = l1.length
  · rw [if_pos hl] at h
    obtain rfl : n = n1 := by omega
    rw [← hn, ← hn1]
    have HN := Lib.hid hn
    have HN1 := Lib.hid hn1
    have HH := Lib.hid h
    clear hn hn1 h hl hle
    have HI : Hid (Lv.Inv w w []) := Lib.hid (Lv.Inv.refl w)
    go_enter Try.func13, Try.ntmps13
    go_wp2
    go_loopg [5] n (fun gg s5 wr => ∃ (i : Nat), s5 = .int .i64 i ∧ Hid (i ≤ n ∧ n - i ≤ gg) ∧ Hid (laws_eqEntryS.go (l0.drop i) (l1.drop i) = some r) ∧ Hid (Lv.Inv w wr []))
    case atStart => exact ⟨0, rfl, Lib.hid (by omega), HH, HI⟩
    case round =>
      clear HI HH
      obtain ⟨i, rfl, HK, HG, HI⟩ := hrel
      by_cases hlt : i < n
      · obtain ⟨b, o, hA, hrow⟩ := Ky.row_entry HR0.out (by have := HN.out; omega)
        obtain ⟨b2, o2, hA2, hrow2⟩ := Ky.row_entry HR1.out (by have := HN1.out; omega)
        obtain ⟨x, hx⟩ : ∃ x, l0[i]? = some x := ⟨_, List.getElem?_eq_getElem (by have := HN.out; omega)⟩
        obtain ⟨y, hy⟩ : ∃ y, l1[i]? = some y := ⟨_, List.getElem?_eq_getElem (by have := HN1.out; omega)⟩
        have HXK := Lib.hid (hrow i x hx).1
        have HXC := Lib.hid (hrow i x hx).2
        have HYK := Lib.hid (hrow2 i y hy).1
        have HYC := Lib.hid (hrow2 i y hy).2
        have hg := HG.out
        obtain ⟨hxl, hxe⟩ := List.getElem?_eq_some_iff.1 hx
        obtain ⟨hyl, hye⟩ := List.getElem?_eq_some_iff.1 hy
        rw [List.drop_eq_getElem_cons hxl, List.drop_eq_getElem_cons hyl, hxe, hye, laws_eqEntryS.go] at hg
        obtain ⟨t, ht, hg⟩ := Option.bind_eq_some_iff.mp hg
        have HT := Lib.hid ht
        clear hrow hrow2 hx hy hxl hyl hxe hye ht HG
        subst hA
        subst hA2
        have k0 : (0 : Int) ≤ (i : Int) := by omega
        have k1 : (i : Int) < (n : Int) := by omega
        have k2 : decide ((i : Int) < (n : Int)) = true := decide_eq_true k1
        have k3 : ((n : Int)).toNat ≤ 1048576 := by have := HM.out; omega
        cases t with
        | true =>
          rw [if_pos rfl] at hg
          have HG := Lib.hid hg
          clear hg
          go_upto_region 6 with (fail)
          refine Fl.start [([],[]),([],[]),([0,1],[0,1]),([2],[2]),([],[]),([],[]),([4,5],[4,5]),([6],[6]),([3,7],[3,7]),([8],[8])] [] 11 [.take 0, .take 1, .take 2, .take 3, .take 4, .take 5, .take 6, .take 7, .one 8, .take 9] [] (by kernel_rfl) (by kernel_rfl) (by decide) (by decide) (by kernel_rfl) (by kernel_rfl) Fl.mk0 HI.out ?_
          refine Fl.take (some 17) (v := .slice (some ⟨b, o, none⟩) n c0) rfl rfl (Or.inl ⟨by rfl, fun _ _ => by rfl⟩) ?_
          simp only [Act.put, Fl.z1, Fl.z2, Fl.z3]
          refine Fl.take (some 18) (v := .int .i64 i) rfl rfl (Or.inl ⟨by rfl, fun _ _ => by rfl⟩) ?_
          simp only [Act.put, Fl.z1, Fl.z2, Fl.z3]
          refine Fl.take (some 19) (v := .pointer (some ⟨b, o + i * 20, none⟩)) rfl rfl (Or.inl ⟨by rfl, fun _ _ => by go_simp⟩) ?_
          simp only [Act.put, Fl.z1, Fl.z2, Fl.z3]
          refine Fl.take (some 20) (v := .agg (Ky.ec x)) rfl rfl (yieldsIf_load_mid (by rfl) 66 _ rfl b (o + i * 20) rfl (Ky.ec x).toList _ (fun W1 hW1 => Ky.range_below HXC.out hW1.bel) Try.underlying66 rfl (by rw [Array.length_toList]; exact Ky.hEk HXK.out)) ?_
          simp only [Act.put, Fl.z1, Fl.z2, Fl.z3]
          refine Fl.take (some 21) (v := .slice (some ⟨b2, o2, none⟩) n c1) rfl rfl (Or.inl ⟨by rfl, fun _ _ => by rfl⟩) ?_
          simp only [Act.put, Fl.z1, Fl.z2, Fl.z3]
          refine Fl.take (some 22) (v := .int .i64 i) rfl rfl (Or.inl ⟨by rfl, fun _ _ => by rfl⟩) ?_
          simp only [Act.put, Fl.z1, Fl.z2, Fl.z3]
          refine Fl.take (some 23) (v := .pointer (some ⟨b2, o2 + i * 20, none⟩)) rfl rfl (Or.inl ⟨by rfl, fun _ _ => by go_simp⟩) ?_
          simp only [Act.put, Fl.z1, Fl.z2, Fl.z3]
          refine Fl.take (some 24) (v := .agg (Ky.ec y)) rfl rfl (yieldsIf_load_mid (by rfl) 66 _ rfl b2 (o2 + i * 20) rfl (Ky.ec y).toList _ (fun W1 hW1 => Ky.range_below HYC.out hW1.bel) Try.underlying66 rfl (by rw [Array.length_toList]; exact Ky.hEk HYK.out)) ?_
          simp only [Act.put, Fl.z1, Fl.z2, Fl.z3]
          refine Fl.call (some 25) Try.func42 (by kernel_rfl) rfl #[.agg (Ky.ec x), .agg (Ky.ec y)] rfl rfl rfl (by rfl) rfl (fun E W hE hi => ?_)
          refine (laws_eqEntry.calls x y true W HXK.out HYK.out HT.out).mono ?_
          rintro e W' ⟨rfl, hb⟩
          refine Fl.keep hi hb ?_
          clear hi hb hE
          simp only [Act.put, Fl.z1, Fl.z2, Fl.z3]
          refine Fl.take (some 26) (v := .bool (!true)) rfl rfl (Or.inl ⟨by rfl, fun _ _ => by rfl⟩) ?_
          simp only [Act.put, Fl.z1, Fl.z2, Fl.z3]
          refine Fl.fin0 ?_
          refine Fl.stopN (fun W hi => ?_)
          have HI2 := Lib.hid hi
          clear hi
          go_wp2
          go_roundg (n - (i + 1))
          case measure => have := HK.out; omega
          case rel => exact ⟨i + 1, by go_num, Lib.hid (by have := HK.out; omega), HG, HI2⟩
        | false =>
          rw [if_neg (by decide)] at hg
          obtain rfl := Option.some.inj hg
          clear hg
          go_upto_region 6 with (fail)
          refine Fl.start [([],[]),([],[]),([0,1],[0,1]),([2],[2]),([],[]),([],[]),([4,5],[4,5]),([6],[6]),([3,7],[3,7]),([8],[8])] [] 11 [.take 0, .take 1, .take 2, .take 3, .take 4, .take 5, .take 6, .take 7, .one 8, .take 9] [] (by kernel_rfl) (by kernel_rfl) (by decide) (by decide) (by kernel_rfl) (by kernel_rfl) Fl.mk0 HI.out ?_
          refine Fl.take (some 17) (v := .slice (some ⟨b, o, none⟩) n c0) rfl rfl (Or.inl ⟨by rfl, fun _ _ => by rfl⟩) ?_
          simp only [Act.put, Fl.z1, Fl.z2, Fl.z3]
          refine Fl.take (some 18) (v := .int .i64 i) rfl rfl (Or.inl ⟨by rfl, fun _ _ => by rfl⟩) ?_
          simp only [Act.put, Fl.z1, Fl.z2, Fl.z3]
          refine Fl.take (some 19) (v := .pointer (some ⟨b, o + i * 20, none⟩)) rfl rfl (Or.inl ⟨by rfl, fun _ _ => by go_simp⟩) ?_
          simp only [Act.put, Fl.z1, Fl.z2, Fl.z3]
          refine Fl.take (some 20) (v := .agg (Ky.ec x)) rfl rfl (yieldsIf_load_mid (by rfl) 66 _ rfl b (o + i * 20) rfl (Ky.ec x).toList _ (fun W1 hW1 => Ky.range_below HXC.out hW1.bel) Try.underlying66 rfl (by rw [Array.length_toList]; exact Ky.hEk HXK.out)) ?_
          simp only [Act.put, Fl.z1, Fl.z2, Fl.z3]
          refine Fl.take (some 21) (v := .slice (some ⟨b2, o2, none⟩) n c1) rfl rfl (Or.inl ⟨by rfl, fun _ _ => by rfl⟩) ?_
          simp only [Act.put, Fl.z1, Fl.z2, Fl.z3]
          refine Fl.take (some 22) (v := .int .i64 i) rfl rfl (Or.inl ⟨by rfl, fun _ _ => by rfl⟩) ?_
          simp only [Act.put, Fl.z1, Fl.z2, Fl.z3]
          refine Fl.take (some 23) (v := .pointer (some ⟨b2, o2 + i * 20, none⟩)) rfl rfl (Or.inl ⟨by rfl, fun _ _ => by go_simp⟩) ?_
          simp only [Act.put, Fl.z1, Fl.z2, Fl.z3]
          refine Fl.take (some 24) (v := .agg (Ky.ec y)) rfl rfl (yieldsIf_load_mid (by rfl) 66 _ rfl b2 (o2 + i * 20) rfl (Ky.ec y).toList _ (fun W1 hW1 => Ky.range_below HYC.out hW1.bel) Try.underlying66 rfl (by rw [Array.length_toList]; exact Ky.hEk HYK.out)) ?_
          simp only [Act.put, Fl.z1, Fl.z2, Fl.z3]
          refine Fl.call (some 25) Try.func42 (by kernel_rfl) rfl #[.agg (Ky.ec x), .agg (Ky.ec y)] rfl rfl rfl (by rfl) rfl (fun E W hE hi => ?_)
          refine (laws_eqEntry.calls x y false W HXK.out HYK.out HT.out).mono ?_
          rintro e W' ⟨rfl, hb⟩
          refine Fl.keep hi hb ?_
          clear hi hb hE
          simp only [Act.put, Fl.z1, Fl.z2, Fl.z3]
          refine Fl.take (some 26) (v := .bool (!false)) rfl rfl (Or.inl ⟨by rfl, fun _ _ => by rfl⟩) ?_
          simp only [Act.put, Fl.z1, Fl.z2, Fl.z3]
          refine Fl.fin0 ?_
          refine Fl.stopN (fun W hi => ?_)
          have HI2 := Lib.hid hi
          clear hi
          go_wp2
          go_ret
          exact ⟨rfl, HI2.out.bel⟩
      · have c0 : decide ((i : Int) < (n : Int)) = false := decide_eq_false (by omega)
        have hg := HG.out
        rw [List.drop_eq_nil_of_le (by have := HN.out; omega), laws_eqEntryS.go] at hg
        · obtain rfl := Option.some.inj hg
          clear hg HG
          go_wp2
          go_ret
          exact ⟨rfl, HI.out.bel⟩
        · intros; contradiction
  · rw [if_neg hl] at h
    obtain rfl := Option.some.inj h
    rw [← hn, ← hn1]
    have hne : ((n : Int) == (n1 : Int)) = false := by
      have : ¬ ((n : Int) = (n1 : Int)) := by omega
      simpa using this
    clear hn hn1 h hl hle
    go_enter Try.func13, Try.ntmps13
    go_wp2
    go_ret
    exact ⟨rfl, Below.refl _ _⟩

open Go.Proofs.Ytkifenbcepicjaa.Cp
/-! ### laws_eqByteS: function 72 -/
def laws_eqByteS.l0 : Nat → List Int → List Int → Int → Option (Bool)
 | 0, _, _, _ => none
 | k + 1, x0, x1, x5 => if x5 < (x0.length : Int) then (if 0 ≤ x5 then (if x5 < (x1.length : Int) then (if (rd x0 x5) = (rd x1 x5) then (laws_eqByteS.l0 k x0 x1 (wrap64 (x5 + 1))) else (some false)) else (none)) else (none)) else (some true)
def laws_eqByteS.f (k : Nat) (l0 : List Int) (l1 : List Int) : Option (Bool) := if (l0.length : Int) = (l1.length : Int) then (laws_eqByteS.l0 k l0 l1 0) else (some false)
theorem laws_eqByteS.mono_l : ∀ k, (∀ y0 y1 y2, LeO (laws_eqByteS.l0 k y0 y1 y2) (laws_eqByteS.l0 (k + 1) y0 y1 y2))
 | 0 => fun _ _ _ r h => by simp [laws_eqByteS.l0] at h
 | k + 1 => by
  have ih0 := laws_eqByteS.mono_l k
  ·intro y0 y1 y2
   unfold laws_eqByteS.l0
   repeat' first
   | (with_reducible exact ih0 _ _ _)
   | (with_reducible exact LeO.refl _)
   | (with_reducible exact LeO.none _)
   | (with_reducible refine LeO.ite ?_ ?_)
   | (with_reducible refine LeO.bind ?_ (fun _ => ?_))
   | exact ih0 _ _ _
   | exact LeO.none _
   | refine LeO.ite ?_ ?_
   | refine LeO.bind ?_ (fun _ => ?_)
theorem laws_eqByteS.mono : ∀ a0 a1 k, LeO (laws_eqByteS.f k a0 a1) (laws_eqByteS.f (k + 1) a0 a1) := by
 intro a0 a1 k
 have ih0 := laws_eqByteS.mono_l k
 unfold laws_eqByteS.f
 repeat' first
   | (with_reducible exact ih0 _ _ _)
   | (with_reducible exact LeO.refl _)
   | (with_reducible exact LeO.none _)
   | (with_reducible refine LeO.ite ?_ ?_)
   | (with_reducible refine LeO.bind ?_ (fun _ => ?_))
   | exact ih0 _ _ _
   | exact LeO.none _
   | refine LeO.ite ?_ ?_
   | refine LeO.bind ?_ (fun _ => ?_)
set_option maxHeartbeats 8000000 in
set_option maxRecDepth 100000 in
theorem laws_eqByteS.calls (k : Nat) (A0 : Option Addr) (c0 : Nat) (l0 : List Int) (A1 : Option Addr) (c1 : Nat) (l1 : List Int) (r : Bool) (w : World) (hr0 : Kd.C (Kd.int .u8) w A0 l0.length l0) (hc0 : l0.length ≤ c0) (hr1 : Kd.C (Kd.int .u8) w A1 l1.length l1) (hc1 : l1.length ≤ c1) (h : laws_eqByteS.f k l0 l1 = some r) :
  Calls Try.prog 72 #[.slice A0 l0.length c0, .slice A1 l1.length c1] w fun e w' => e = .returned (.bool r) ∧ Drawn0 w w' := by
 have HR0 := Aside0.mk hr0
 have HC0 := Aside0.mk hc0
 clear hr0 hc0
 have HR1 := Aside0.mk hr1
 have HC1 := Aside0.mk hc1
 clear hr1 hc1
 have H : (if (l0.length : Int) = (l1.length : Int) then (laws_eqByteS.l0 k l0 l1 0) else (some false)) = some r := h
 clear h
 by_cases c3 : (l0.length : Int) = (l1.length : Int)
 ·rw [if_pos c3] at H
  have c3b0 : ((l0.length : Int) == (l1.length : Int)) = true := beq_iff_eq.mpr c3
  have c3b1 : ((l0.length : Int) != (l1.length : Int)) = false := bne_eq_false_iff_eq.mpr c3
  have c3b2 : (l0.length == l1.length) = true := by first | simpa using c3 | (simp at c3 ⊢; omega)
  clear c3
  have H' := Aside0.mk H
  clear H
  go_enter Try.func72, Try.ntmps72
  go_wp2
  repeat (go_quiet (fail); try go_wp2)
  go_loopg [5] k (fun kq v5 w' => ∃ (x5_1 : Int), v5 = .int .i64 x5_1 ∧ Aside0 (laws_eqByteS.l0 kq l0 l1 x5_1 = some r) ∧ Aside0 (kq ≤ k) ∧ Drawn0 w w')
  case atStart => exact ⟨(0), (by first | rfl | (simp; done) | (simp [*]; done)), H', ⟨Nat.le_refl _⟩, by repeat (first | exact Drawn0.refl _ | apply Drawn0.step)⟩
  case round =>
   clear H'
   try clear c1
   try clear p2
   try clear c3
   try clear c3b0
   try clear c3b1
   try clear c3b2
   obtain ⟨x5_1, rfl, HA, HK1, ⟨m1, rfl⟩⟩ := hrel
   cases gk with
   | zero => exact absurd HA.out (by simp [laws_eqByteS.l0])
   | succ k1 =>
    have H := HA.out
    clear HA
    simp only [laws_eqByteS.l0] at H
    by_cases c4 : x5_1 < (l0.length : Int)
    ·rw [if_pos c4] at H
     have c4b0 : decide (x5_1 < (l0.length : Int)) = true := decide_eq_true c4
     clear c4
     by_cases c5 : 0 ≤ x5_1
     ·rw [if_pos c5] at H
      have c5b0 : decide (0 ≤ x5_1) = true := decide_eq_true c5
      clear c5
      by_cases c6 : x5_1 < (l1.length : Int)
      ·rw [if_pos c6] at H
       have c6b0 : decide (x5_1 < (l1.length : Int)) = true := decide_eq_true c6
       clear c6
       by_cases c7 : (rd l0 x5_1) = (rd l1 x5_1)
       ·rw [if_pos c7] at H
        have c7b0 : ((rd l0 x5_1) == (rd l1 x5_1)) = true := beq_iff_eq.mpr c7
        have c7b1 : ((rd l0 x5_1) != (rd l1 x5_1)) = false := bne_eq_false_iff_eq.mpr c7
        clear c7
        have H' := Aside0.mk H
        clear H
        have p152 : 0 ≤ (x5_1 : Int) := of_decide_eq_true (by first | (with_reducible assumption) | assumption)
        have q152 : x5_1 < (l0.length : Int) := of_decide_eq_true (by first | (with_reducible assumption) | assumption)
        obtain ⟨ad152, e152, hx152_0⟩ := Kd.at_int HR0.out x5_1 p152 q152
        cases e152
        replace p152 := eq_true p152
        replace q152 := eq_true q152
        have p153 : 0 ≤ (x5_1 : Int) := of_decide_eq_true (by first | (with_reducible assumption) | assumption)
        have q153 : x5_1 < (l1.length : Int) := of_decide_eq_true (by first | (with_reducible assumption) | assumption)
        obtain ⟨ad153, e153, hx153_0⟩ := Kd.at_int HR1.out x5_1 p153 q153
        cases e153
        replace p153 := eq_true p153
        replace q153 := eq_true q153
        go_wp2
        repeat (go_quiet (fail); try go_wp2)
        go_roundg k1
        case measure => have := HK1.out; omega
        case rel => exact ⟨(wrap64 (x5_1 + 1)), (by first | rfl | (simp; done) | (simp [*]; done)), H', ⟨by have := HK1.out; omega⟩, by repeat (first | exact Drawn0.refl _ | apply Drawn0.step)⟩
       ·rw [if_neg c7] at H
        have c7b0 : ((rd l0 x5_1) == (rd l1 x5_1)) = false := beq_eq_false_iff_ne.mpr c7
        have c7b1 : ((rd l0 x5_1) != (rd l1 x5_1)) = true := bne_iff_ne.mpr c7
        obtain rfl := Option.some.inj H
        have p152 : 0 ≤ (x5_1 : Int) := of_decide_eq_true (by first | (with_reducible assumption) | assumption)
        have q152 : x5_1 < (l0.length : Int) := of_decide_eq_true (by first | (with_reducible assumption) | assumption)
        obtain ⟨ad152, e152, hx152_0⟩ := Kd.at_int HR0.out x5_1 p152 q152
        cases e152
        replace p152 := eq_true p152
        replace q152 := eq_true q152
        have p153 : 0 ≤ (x5_1 : Int) := of_decide_eq_true (by first | (with_reducible assumption) | assumption)
        have q153 : x5_1 < (l1.length : Int) := of_decide_eq_true (by first | (with_reducible assumption) | assumption)
        obtain ⟨ad153, e153, hx153_0⟩ := Kd.at_int HR1.out x5_1 p153 q153
        cases e153
        replace p153 := eq_true p153
        replace q153 := eq_true q153
        go_wp2
        repeat (go_quiet (fail); try go_wp2)
        go_ret
        exact ⟨by first | rfl | (simp; done) | (simp [*]; done), by repeat (first | exact Drawn0.refl _ | apply Drawn0.step)⟩
      ·rw [if_neg c6] at H
       exact absurd H (by simp)
     ·rw [if_neg c5] at H
      exact absurd H (by simp)
    ·rw [if_neg c4] at H
     have c4b0 : decide (x5_1 < (l0.length : Int)) = false := decide_eq_false c4
     clear c4
     obtain rfl := Option.some.inj H
     go_wp2
     repeat (go_quiet (fail); try go_wp2)
     go_ret
     exact ⟨by first | rfl | (simp; done) | (simp [*]; done), by repeat (first | exact Drawn0.refl _ | apply Drawn0.step)⟩
 ·rw [if_neg c3] at H
  have c3b0 : ((l0.length : Int) == (l1.length : Int)) = false := beq_eq_false_iff_ne.mpr c3
  have c3b1 : ((l0.length : Int) != (l1.length : Int)) = true := bne_iff_ne.mpr c3
  have c3b2 : (l0.length == l1.length) = false := by first | simpa using c3 | (simp at c3 ⊢; omega)
  obtain rfl := Option.some.inj H
  go_enter Try.func72, Try.ntmps72
  go_wp2
  repeat (go_quiet (fail); try go_wp2)
  go_ret
  exact ⟨by first | rfl | (simp; done) | (simp [*]; done), by repeat (first | exact Drawn0.refl _ | apply Drawn0.step)⟩

open Go.Proofs.Ytkifenbcepicjaa.Cp
/-! ### laws_eqByteSS: function 43 -/
def laws_eqByteSS.l0 : Nat → List (List Int) → List (List Int) → Int → Option (Bool)
 | 0, _, _, _ => none
 | k + 1, x0, x1, x5 => if x5 < (x0.length : Int) then (if 0 ≤ x5 then (if x5 < (x1.length : Int) then ((laws_eqByteS.f k (rd_L1 x0 x5) (rd_L1 x1 x5)).bind fun t156 => (if t156 = true then (laws_eqByteSS.l0 k x0 x1 (wrap64 (x5 + 1))) else (some false))) else (none)) else (none)) else (some true)
def laws_eqByteSS.f (k : Nat) (l0 : List (List Int)) (l1 : List (List Int)) : Option (Bool) := if (l0.length : Int) = (l1.length : Int) then (laws_eqByteSS.l0 k l0 l1 0) else (some false)
theorem laws_eqByteSS.mono_l : ∀ k, (∀ y0 y1 y2, LeO (laws_eqByteSS.l0 k y0 y1 y2) (laws_eqByteSS.l0 (k + 1) y0 y1 y2))
 | 0 => fun _ _ _ r h => by simp [laws_eqByteSS.l0] at h
 | k + 1 => by
  have ih0 := laws_eqByteSS.mono_l k
  ·intro y0 y1 y2
   unfold laws_eqByteSS.l0
   repeat' first
   | (with_reducible exact ih0 _ _ _)
   | (with_reducible exact laws_eqByteS.mono _ _ _)
   | (with_reducible exact LeO.refl _)
   | (with_reducible exact LeO.none _)
   | (with_reducible refine LeO.ite ?_ ?_)
   | (with_reducible refine LeO.bind ?_ (fun _ => ?_))
   | exact ih0 _ _ _
   | exact laws_eqByteS.mono _ _ _
   | exact LeO.none _
   | refine LeO.ite ?_ ?_
   | refine LeO.bind ?_ (fun _ => ?_)
theorem laws_eqByteSS.mono : ∀ a0 a1 k, LeO (laws_eqByteSS.f k a0 a1) (laws_eqByteSS.f (k + 1) a0 a1) := by
 intro a0 a1 k
 have ih0 := laws_eqByteSS.mono_l k
 unfold laws_eqByteSS.f
 repeat' first
   | (with_reducible exact ih0 _ _ _)
   | (with_reducible exact laws_eqByteS.mono _ _ _)
   | (with_reducible exact LeO.refl _)
   | (with_reducible exact LeO.none _)
   | (with_reducible refine LeO.ite ?_ ?_)
   | (with_reducible refine LeO.bind ?_ (fun _ => ?_))
   | exact ih0 _ _ _
   | exact laws_eqByteS.mono _ _ _
   | exact LeO.none _
   | refine LeO.ite ?_ ?_
   | refine LeO.bind ?_ (fun _ => ?_)
set_option maxHeartbeats 8000000 in
set_option maxRecDepth 100000 in
theorem laws_eqByteSS.calls (k : Nat) (A0 : Option Addr) (c0 : Nat) (l0 : List (List Int)) (A1 : Option Addr) (c1 : Nat) (l1 : List (List Int)) (r : Bool) (w : World) (hr0 : Kd.C (Kd.slice 5 (Kd.int .u8)) w A0 l0.length l0) (hc0 : l0.length ≤ c0) (hr1 : Kd.C (Kd.slice 5 (Kd.int .u8)) w A1 l1.length l1) (hc1 : l1.length ≤ c1) (h : laws_eqByteSS.f k l0 l1 = some r) :
  Calls Try.prog 43 #[.slice A0 l0.length c0, .slice A1 l1.length c1] w fun e w' => e = .returned (.bool r) ∧ Drawn0 w w' := by
 have HR0 := Aside0.mk hr0
 have HC0 := Aside0.mk hc0
 clear hr0 hc0
 have HR1 := Aside0.mk hr1
 have HC1 := Aside0.mk hc1
 clear hr1 hc1
 have H : (if (l0.length : Int) = (l1.length : Int) then (laws_eqByteSS.l0 k l0 l1 0) else (some false)) = some r := h
 clear h
 by_cases c3 : (l0.length : Int) = (l1.length : Int)
 ·rw [if_pos c3] at H
  have c3b0 : ((l0.length : Int) == (l1.length : Int)) = true := beq_iff_eq.mpr c3
  have c3b1 : ((l0.length : Int) != (l1.length : Int)) = false := bne_eq_false_iff_eq.mpr c3
  have c3b2 : (l0.length == l1.length) = true := by first | simpa using c3 | (simp at c3 ⊢; omega)
  clear c3
  have H' := Aside0.mk H
  clear H
  go_enter Try.func43, Try.ntmps43
  go_wp2
  repeat (go_quiet (fail); try go_wp2)
  go_loopg [5] k (fun kq v5 w' => ∃ (x5_1 : Int), v5 = .int .i64 x5_1 ∧ Aside0 (laws_eqByteSS.l0 kq l0 l1 x5_1 = some r) ∧ Aside0 (kq ≤ k) ∧ Drawn0 w w')
  case atStart => exact ⟨(0), (by first | rfl | (simp; done) | (simp [*]; done)), H', ⟨Nat.le_refl _⟩, by repeat (first | exact Drawn0.refl _ | apply Drawn0.step)⟩
  case round =>
   clear H'
   try clear c1
   try clear p2
   try clear c3
   try clear c3b0
   try clear c3b1
   try clear c3b2
   obtain ⟨x5_1, rfl, HA, HK1, ⟨m1, rfl⟩⟩ := hrel
   cases gk with
   | zero => exact absurd HA.out (by simp [laws_eqByteSS.l0])
   | succ k1 =>
    have H := HA.out
    clear HA
    simp only [laws_eqByteSS.l0] at H
    by_cases c4 : x5_1 < (l0.length : Int)
    ·rw [if_pos c4] at H
     have c4b0 : decide (x5_1 < (l0.length : Int)) = true := decide_eq_true c4
     clear c4
     by_cases c5 : 0 ≤ x5_1
     ·rw [if_pos c5] at H
      have c5b0 : decide (0 ≤ x5_1) = true := decide_eq_true c5
      clear c5
      by_cases c6 : x5_1 < (l1.length : Int)
      ·rw [if_pos c6] at H
       have c6b0 : decide (x5_1 < (l1.length : Int)) = true := decide_eq_true c6
       clear c6
       replace H := Option.bind_eq_some_iff.mp H
       obtain ⟨t156, A70, H⟩ := H
       replace H : (if t156 = true then (laws_eqByteSS.l0 k1 l0 l1 (wrap64 (x5_1 + 1))) else (some false)) = some r := H
       have A7 := Aside0.mk A70
       clear A70
       by_cases c8 : t156 = true
       ·subst c8
        have H1 : (laws_eqByteSS.l0 k1 l0 l1 (wrap64 (x5_1 + 1))) = some r := by rw [if_pos rfl] at H; exact H
        clear H
        have H := H1
        clear H1
        have H' := Aside0.mk H
        clear H
        have p154 : 0 ≤ (x5_1 : Int) := of_decide_eq_true (by first | (with_reducible assumption) | assumption)
        have q154 : x5_1 < (l0.length : Int) := of_decide_eq_true (by first | (with_reducible assumption) | assumption)
        obtain ⟨ad154, A154_0, c154_0, e154, hx154_0, hl154_0, hi154_0⟩ := at_L1 HR0.out x5_1 p154 q154
        cases e154
        have HR154_0 := Aside0.mk hi154_0
        have HC154_0 := Aside0.mk hl154_0
        clear hi154_0 hl154_0
        replace p154 := eq_true p154
        replace q154 := eq_true q154
        have p155 : 0 ≤ (x5_1 : Int) := of_decide_eq_true (by first | (with_reducible assumption) | assumption)
        have q155 : x5_1 < (l1.length : Int) := of_decide_eq_true (by first | (with_reducible assumption) | assumption)
        obtain ⟨ad155, A155_0, c155_0, e155, hx155_0, hl155_0, hi155_0⟩ := at_L1 HR1.out x5_1 p155 q155
        cases e155
        have HR155_0 := Aside0.mk hi155_0
        have HC155_0 := Aside0.mk hl155_0
        clear hi155_0 hl155_0
        replace p155 := eq_true p155
        replace q155 := eq_true q155
        go_wp2_with (first | (go_at_call 72; (with_reducible refine (laws_eqByteS.calls k1 _ _ (rd_L1 l0 x5_1) _ _ (rd_L1 l1 x5_1) true _ ?side1 ?side2 ?side3 ?side4 A7.out).mono ?_); (case side1 => repeat (first | exact HR154_0.out | (with_reducible refine Kd.C_alloc ?_ _) | (with_reducible refine Kd.C_drewN ?_ _) | (with_reducible refine Kd.C_drew ?_))); (case side2 => exact HC154_0.out); (case side3 => repeat (first | exact HR155_0.out | (with_reducible refine Kd.C_alloc ?_ _) | (with_reducible refine Kd.C_drewN ?_ _) | (with_reducible refine Kd.C_drew ?_))); (case side4 => exact HC155_0.out); rintro e w' ⟨rfl, ⟨nd, rfl⟩⟩; (try first | exact ⟨rfl, _, World.drewN_drewN _ _ _⟩ | exact ⟨rfl, _, Eq.trans (World.drewN_drewN _ _ _) (congrArg (World.drewN _) (Nat.add_assoc _ _ _))⟩)))
        repeat (go_quiet (first | (go_at_call 72; (with_reducible refine (laws_eqByteS.calls k1 _ _ (rd_L1 l0 x5_1) _ _ (rd_L1 l1 x5_1) true _ ?side1 ?side2 ?side3 ?side4 A7.out).mono ?_); (case side1 => repeat (first | exact HR154_0.out | (with_reducible refine Kd.C_alloc ?_ _) | (with_reducible refine Kd.C_drewN ?_ _) | (with_reducible refine Kd.C_drew ?_))); (case side2 => exact HC154_0.out); (case side3 => repeat (first | exact HR155_0.out | (with_reducible refine Kd.C_alloc ?_ _) | (with_reducible refine Kd.C_drewN ?_ _) | (with_reducible refine Kd.C_drew ?_))); (case side4 => exact HC155_0.out); rintro e w' ⟨rfl, ⟨nd, rfl⟩⟩; (try first | exact ⟨rfl, _, World.drewN_drewN _ _ _⟩ | exact ⟨rfl, _, Eq.trans (World.drewN_drewN _ _ _) (congrArg (World.drewN _) (Nat.add_assoc _ _ _))⟩))); try go_wp2_with (first | (go_at_call 72; (with_reducible refine (laws_eqByteS.calls k1 _ _ (rd_L1 l0 x5_1) _ _ (rd_L1 l1 x5_1) true _ ?side1 ?side2 ?side3 ?side4 A7.out).mono ?_); (case side1 => repeat (first | exact HR154_0.out | (with_reducible refine Kd.C_alloc ?_ _) | (with_reducible refine Kd.C_drewN ?_ _) | (with_reducible refine Kd.C_drew ?_))); (case side2 => exact HC154_0.out); (case side3 => repeat (first | exact HR155_0.out | (with_reducible refine Kd.C_alloc ?_ _) | (with_reducible refine Kd.C_drewN ?_ _) | (with_reducible refine Kd.C_drew ?_))); (case side4 => exact HC155_0.out); rintro e w' ⟨rfl, ⟨nd, rfl⟩⟩; (try first | exact ⟨rfl, _, World.drewN_drewN _ _ _⟩ | exact ⟨rfl, _, Eq.trans (World.drewN_drewN _ _ _) (congrArg (World.drewN _) (Nat.add_assoc _ _ _))⟩))))
        go_roundg k1
        case measure => have := HK1.out; omega
        case rel => exact ⟨(wrap64 (x5_1 + 1)), (by first | rfl | (simp; done) | (simp [*]; done)), H', ⟨by have := HK1.out; omega⟩, by repeat (first | exact Drawn0.refl _ | apply Drawn0.step)⟩
       ·replace c8 := Bool.eq_false_iff.mpr c8
        subst c8
        have H1 : (some false) = some r := by rw [if_neg (show ¬ (false = true) by decide)] at H; exact H
        clear H
        have H := H1
        clear H1
        obtain rfl := Option.some.inj H
        have p154 : 0 ≤ (x5_1 : Int) := of_decide_eq_true (by first | (with_reducible assumption) | assumption)
        have q154 : x5_1 < (l0.length : Int) := of_decide_eq_true (by first | (with_reducible assumption) | assumption)
        obtain ⟨ad154, A154_0, c154_0, e154, hx154_0, hl154_0, hi154_0⟩ := at_L1 HR0.out x5_1 p154 q154
        cases e154
        have HR154_0 := Aside0.mk hi154_0
        have HC154_0 := Aside0.mk hl154_0
        clear hi154_0 hl154_0
        replace p154 := eq_true p154
        replace q154 := eq_true q154
        have p155 : 0 ≤ (x5_1 : Int) := of_decide_eq_true (by first | (with_reducible assumption) | assumption)
        have q155 : x5_1 < (l1.length : Int) := of_decide_eq_true (by first | (with_reducible assumption) | assumption)
        obtain ⟨ad155, A155_0, c155_0, e155, hx155_0, hl155_0, hi155_0⟩ := at_L1 HR1.out x5_1 p155 q155
        cases e155
        have HR155_0 := Aside0.mk hi155_0
        have HC155_0 := Aside0.mk hl155_0
        clear hi155_0 hl155_0
        replace p155 := eq_true p155
        replace q155 := eq_true q155
        go_wp2_with (first | (go_at_call 72; (with_reducible refine (laws_eqByteS.calls k1 _ _ (rd_L1 l0 x5_1) _ _ (rd_L1 l1 x5_1) false _ ?side1 ?side2 ?side3 ?side4 A7.out).mono ?_); (case side1 => repeat (first | exact HR154_0.out | (with_reducible refine Kd.C_alloc ?_ _) | (with_reducible refine Kd.C_drewN ?_ _) | (with_reducible refine Kd.C_drew ?_))); (case side2 => exact HC154_0.out); (case side3 => repeat (first | exact HR155_0.out | (with_reducible refine Kd.C_alloc ?_ _) | (with_reducible refine Kd.C_drewN ?_ _) | (with_reducible refine Kd.C_drew ?_))); (case side4 => exact HC155_0.out); rintro e w' ⟨rfl, ⟨nd, rfl⟩⟩; (try first | exact ⟨rfl, _, World.drewN_drewN _ _ _⟩ | exact ⟨rfl, _, Eq.trans (World.drewN_drewN _ _ _) (congrArg (World.drewN _) (Nat.add_assoc _ _ _))⟩)))
        repeat (go_quiet (first | (go_at_call 72; (with_reducible refine (laws_eqByteS.calls k1 _ _ (rd_L1 l0 x5_1) _ _ (rd_L1 l1 x5_1) false _ ?side1 ?side2 ?side3 ?side4 A7.out).mono ?_); (case side1 => repeat (first | exact HR154_0.out | (with_reducible refine Kd.C_alloc ?_ _) | (with_reducible refine Kd.C_drewN ?_ _) | (with_reducible refine Kd.C_drew ?_))); (case side2 => exact HC154_0.out); (case side3 => repeat (first | exact HR155_0.out | (with_reducible refine Kd.C_alloc ?_ _) | (with_reducible refine Kd.C_drewN ?_ _) | (with_reducible refine Kd.C_drew ?_))); (case side4 => exact HC155_0.out); rintro e w' ⟨rfl, ⟨nd, rfl⟩⟩; (try first | exact ⟨rfl, _, World.drewN_drewN _ _ _⟩ | exact ⟨rfl, _, Eq.trans (World.drewN_drewN _ _ _) (congrArg (World.drewN _) (Nat.add_assoc _ _ _))⟩))); try go_wp2_with (first | (go_at_call 72; (with_reducible refine (laws_eqByteS.calls k1 _ _ (rd_L1 l0 x5_1) _ _ (rd_L1 l1 x5_1) false _ ?side1 ?side2 ?side3 ?side4 A7.out).mono ?_); (case side1 => repeat (first | exact HR154_0.out | (with_reducible refine Kd.C_alloc ?_ _) | (with_reducible refine Kd.C_drewN ?_ _) | (with_reducible refine Kd.C_drew ?_))); (case side2 => exact HC154_0.out); (case side3 => repeat (first | exact HR155_0.out | (with_reducible refine Kd.C_alloc ?_ _) | (with_reducible refine Kd.C_drewN ?_ _) | (with_reducible refine Kd.C_drew ?_))); (case side4 => exact HC155_0.out); rintro e w' ⟨rfl, ⟨nd, rfl⟩⟩; (try first | exact ⟨rfl, _, World.drewN_drewN _ _ _⟩ | exact ⟨rfl, _, Eq.trans (World.drewN_drewN _ _ _) (congrArg (World.drewN _) (Nat.add_assoc _ _ _))⟩))))
        go_ret
        exact ⟨by first | rfl | (simp; done) | (simp [*]; done), by repeat (first | exact Drawn0.refl _ | apply Drawn0.step)⟩
      ·rw [if_neg c6] at H
       exact absurd H (by simp)
     ·rw [if_neg c5] at H
      exact absurd H (by simp)
    ·rw [if_neg c4] at H
     have c4b0 : decide (x5_1 < (l0.length : Int)) = false := decide_eq_false c4
     clear c4
     obtain rfl := Option.some.inj H
     go_wp2
     repeat (go_quiet (fail); try go_wp2)
     go_ret
     exact ⟨by first | rfl | (simp; done) | (simp [*]; done), by repeat (first | exact Drawn0.refl _ | apply Drawn0.step)⟩
 ·rw [if_neg c3] at H
  have c3b0 : ((l0.length : Int) == (l1.length : Int)) = false := beq_eq_false_iff_ne.mpr c3
  have c3b1 : ((l0.length : Int) != (l1.length : Int)) = true := bne_iff_ne.mpr c3
  have c3b2 : (l0.length == l1.length) = false := by first | simpa using c3 | (simp at c3 ⊢; omega)
  obtain rfl := Option.some.inj H
  go_enter Try.func43, Try.ntmps43
  go_wp2
  repeat (go_quiet (fail); try go_wp2)
  go_ret
  exact ⟨by first | rfl | (simp; done) | (simp [*]; done), by repeat (first | exact Drawn0.refl _ | apply Drawn0.step)⟩

end Go.Proofs.Ytkifenbcepicjaa.PFnExactEntriesBetween
