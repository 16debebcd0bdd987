/- What is proved here: each Go function that is named below answers, and leaves memory, as the theorem of its name says; no condition beyond those that each theorem states. Laid by this session's own program (wip/driver.py) over the kit's print. -/
import Derived.Test.YtkifenbcepicjaaPFnExactDropEntryx0
import Derived.Test.YtkifenbcepicjaaPFnExactDropEntryx3
import Derived.Test.YtkifenbcepicjaaPFnExactDropEntryx4
namespace Go.Proofs.Ytkifenbcepicjaa.PFnExactDropEntry
open Go.RowKit Go.Proofs.YtkifenbcepicjaaW.PrintWords Go.Proofs.YtkifenbcepicjaaW.PrintLast Go.Proofs.YtkifenbcepicjaaW.PrintMore
attribute [local go_sem] max2_int min2_int max_two min_two max_three min_three max_four min_four   -- for this text's walks alone
set_option linter.unusedVariables false
set_option linter.unusedSimpArgs false

/-! ### impl_isTable: function 40 (by hand) -/
def impl_isTable.fin (k : Nat) (m : List (List Int)) (n : Nat) : Option Bool := (impl_IsMemory.f k m).bind fun b => some (b && decide ((n : Int) ≤ 12))
def impl_isTable.cmp : Option Ky.En → Ky.En → Option Bool
  | none, _ => some true
  | some p, x => (impl_compareKeys.f p.key x.key).bind fun c => some (decide (c < 0))
def impl_isTable.go (k : Nat) (m : List (List Int)) (n : Nat) : Option Ky.En → List Ky.En → Option Bool
  | _, [] => impl_isTable.fin k m n
  | p, x :: xs => (impl_areOn.f k m [(⟨x.a, x.s, x.l, x.c⟩ : S54)]).bind fun b => if b = true then (impl_isTable.cmp p x).bind fun t => if t = true then impl_isTable.go k m n (some x) xs else some false else some false
def impl_isTable.f (k : Nat) (m : List (List Int)) (t : List Ky.En) : Option Bool := if t.length ≤ 1048576 then impl_isTable.go k m t.length none t else none
theorem impl_isTable.mono_fin (k : Nat) (m : List (List Int)) (n : Nat) : LeO (impl_isTable.fin k m n) (impl_isTable.fin (k + 1) m n) := by
  unfold impl_isTable.fin
  exact LeO.bind (by apply impl_IsMemory.mono) (fun _ => LeO.refl _)
theorem impl_isTable.mono_go (k : Nat) (m : List (List Int)) (n : Nat) : ∀ (xs : List Ky.En) (p : Option Ky.En), LeO (impl_isTable.go k m n p xs) (impl_isTable.go (k + 1) m n p xs)
  | [], p => by
    unfold impl_isTable.go
    exact impl_isTable.mono_fin k m n
  | x :: xs, p => by
    unfold impl_isTable.go
    exact LeO.bind (by apply impl_areOn.mono) (fun _ => LeO.ite (LeO.bind (LeO.refl _) (fun _ => LeO.ite (impl_isTable.mono_go k m n xs _) (LeO.refl _))) (LeO.refl _))
theorem impl_isTable.mono : ∀ a0 a1 k, LeO (impl_isTable.f k a0 a1) (impl_isTable.f (k + 1) a0 a1) := by
  intro a0 a1 k
  unfold impl_isTable.f
  exact LeO.ite (impl_isTable.mono_go k _ _ _ _) (LeO.refl _)
set_option maxHeartbeats 4000000 in
set_option maxRecDepth 100000 in
theorem impl_isTable.calls (k : Nat) (A0_0 : Option Addr) (c0_0 : Nat) (l0_0 : List (List Int)) (A1 : Option Addr) (c1 : Nat) (l1 : List Ky.En) (r : Bool) (w : World) (hr0_0 : Kd.C (Kd.slice 5 (Kd.int .u8)) w A0_0 l0_0.length l0_0) (hc0_0 : l0_0.length ≤ c0_0) (hr1 : Kd.C Ky.ke w A1 l1.length l1) (hc1 : l1.length ≤ c1) (h : impl_isTable.f k l0_0 l1 = some r) :
    Calls Try.prog 40 #[.agg #[.slice A0_0 l0_0.length c0_0], .slice A1 l1.length c1] w fun e w' => e = .returned (.bool r) ∧ Below w.heap.size w w' := by
  have HR0 := Lib.hid hr0_0
  have HC0 := Lib.hid hc0_0
  have HR1 := Lib.hid hr1
  clear hr0_0 hc0_0 hr1 hc1
  unfold impl_isTable.f at h
  obtain ⟨n, hn⟩ : ∃ n, n = l1.length := ⟨_, rfl⟩
  rw [← hn] at h ⊢
  obtain ⟨hle, h⟩ := Ky.of_condO h
  have HN := Lib.hid hn
  have HM := Lib.hid hle
  have HH := Lib.hid h
  clear hn h hle
  obtain ⟨W0, hW⟩ : ∃ W, W = w.alloc (.cells #[.slice A0_0 l0_0.length c0_0] 32) := ⟨_, rfl⟩
  have HI : Hid (Lv.Inv w W0 [Lv.boxF (w.heap.size) #[.slice A0_0 l0_0.length c0_0] 32]) := by
    subst hW
    have := (Lv.Inv.refl w).box #[.slice A0_0 l0_0.length c0_0] 32
    exact Lib.hid (by simpa using this)
  go_enter Try.func40, Try.ntmps40
  go_upto_region 1 with (fail)
  rw [← hW]
  clear hW
  go_wp2
  go_loopg [5, 6, 9] n (fun gg _ _ s9 wr => ∃ (i : Nat), s9 = .int .i64 i ∧ Hid (i ≤ n ∧ n - i ≤ gg) ∧ Hid (impl_isTable.go k l0_0 n (Ky.prev l1 i) (l1.drop i) = some r) ∧ Hid (Lv.Inv w wr [Lv.boxF (w.heap.size) #[.slice A0_0 l0_0.length c0_0] 32]))
  case atStart => exact ⟨0, rfl, Lib.hid (by omega), HH, HI⟩
  case round =>
    clear HI HH
    obtain ⟨i, rfl, HK, HG, HI⟩ := hrel
    by_cases hlt : i < n
    · obtain ⟨b, o, hA, hrow⟩ := Ky.row_entry HR1.out (by have := HN.out; omega)
      obtain ⟨x, hx⟩ : ∃ x, l1[i]? = some x := ⟨_, List.getElem?_eq_getElem (by have := HN.out; omega)⟩
      have HKx := Lib.hid (hrow i x hx).1
      have HCx := Lib.hid (hrow i x hx).2
      have HPV := Lib.hid (Ky.prev_succ hx)
      have hg := HG.out
      obtain ⟨hxl, hxe⟩ := List.getElem?_eq_some_iff.1 hx
      rw [List.drop_eq_getElem_cons hxl, hxe, impl_isTable.go] at hg
      clear hx hxl hxe HG
      have k0 : (0 : Int) ≤ (i : Int) := by omega
      have k1 : (i : Int) < (n : Int) := by omega
      have k3 : ((n : Int)).toNat ≤ 1048576 := by have := HM.out; omega
      obtain ⟨t, ht, hg⟩ := Option.bind_eq_some_iff.mp hg
      have HT := Lib.hid ht
      clear ht
      cases t with
      | false =>
        rw [if_neg (by decide)] at hg
        obtain rfl := Option.some.inj hg
        clear hg hrow
        subst hA
        go_upto_region 3 with (fail)
        refine Fl.startL [.take 0, .take 1, .take 2, .one 3, .take 4, .one 5] (by decide) HI.out ?_
        refine Fl.take (some 11) (v := .int .i64 (i : Int)) rfl rfl (Or.inl ⟨by rfl, fun _ _ => by rfl⟩) ?_
        simp only [Act.put, Fl.z1, Fl.z2, Fl.z3]
        refine Fl.take (some 12) (v := .pointer (some ⟨b, o + i * 20, none⟩)) rfl rfl (Or.inl ⟨by rfl, fun _ _ => by first | rfl | (go_simp; done) | (go_simp; rfl) | (go_simp; omega)⟩) ?_
        simp only [Act.put, Fl.z1, Fl.z2, Fl.z3]
        refine Fl.take (some 13) (v := .agg (Ky.ec x)) rfl rfl (yieldsIf_load_mid (by rfl) 66 _ rfl b (o + i * 20) rfl (Ky.ec x).toList _ (fun W1 hW1 => Ky.range_below HCx.out hW1.bel) Try.underlying66 rfl (by rw [Array.length_toList]; exact Ky.hEk HKx.out)) ?_
        simp only [Act.put, Fl.z1, Fl.z2, Fl.z3]
        refine Fl.var (N := 6) (cs := Ky.ec Ky.En0) (t := 66) ⟨_, rfl, rfl, fun _ => rfl, fun e w => by go_simp; rfl⟩ (fun be => ?_)
        simp only [Act.put, Fl.z1, Fl.z2, Fl.z3]
        refine Fl.take (some 5) (v := .int .i64 (i : Int)) rfl rfl (Or.inl ⟨by rfl, fun _ _ => by rfl⟩) ?_
        simp only [Act.put, Fl.z1, Fl.z2, Fl.z3]
        refine Fl.store 0 (Ky.ec x) rfl rfl rfl rfl _ _ _ rfl rfl rfl (by rfl) (by rw [Ky.ec_size HKx.out, Ky.ec_size Ky.key_0]) (Ky.hEk HKx.out) (Ky.ec_one x) ?_
        refine Fl.stop (fun W hi => ?_)
        replace HI := Lib.hid hi
        clear hi
        go_upto_region 4 with (fail)
        refine Fl.start [([],[]),([],[]),([1],[1]),([2],[2]),([0,3],[0,3]),([4],[4]),([5,4],[5]),([6],[6]),([7,6],[6,7]),([8,6,6],[6,8]),([9],[9]),([9],[9]),([11,9],[9,11]),([10,12,9],[9,10,12]),([13,9],[9,13]),([14,9],[9,14]),([9],[9]),([16,9],[9,16]),([15,17,9,9],[9,15,17]),([18,9],[9,18]),([9,19,6],[6,9,19]),([6,20],[6,20])] [] 23 [.take 0, .take 1, .take 2, .one 3, .one 4, .take 5, .take 6, .take 7, .take 8, .take 9, .take 10, .take 11, .take 12, .take 13, .take 14, .take 15, .take 16, .take 17, .take 18, .take 19, .take 20, .take 21] [] (by kernel_rfl) (by kernel_rfl) (by decide) (by decide) (by kernel_rfl) (by kernel_rfl) Fl.mk0 HI.out ?_
        refine Fl.take (some 14) (v := .agg #[.slice A0_0 l0_0.length c0_0]) rfl rfl (Fl.ld 1 rfl (by rfl) _ _ rfl rfl Try.underlying32 rfl (by kernel_rfl)) ?_
        simp only [Act.put, Fl.z1, Fl.z2, Fl.z3]
        refine Fl.take (some 15) (v := .pointer (some ⟨be, 16, none⟩)) rfl rfl (Or.inl ⟨by rfl, fun _ _ => by first | rfl | (go_simp; done) | (go_simp; rfl) | (go_simp; omega)⟩) ?_
        simp only [Act.put, Fl.z1, Fl.z2, Fl.z3]
        refine Fl.take (some 16) (v := .agg (Ky.wc x)) rfl rfl (Fl.ldP 0 16 (Ky.wc x) rfl (by rfl) _ _ rfl rfl (Ky.ec_win HKx.out) Try.underlying54 rfl (by kernel_rfl)) ?_
        simp only [Act.put, Fl.z1, Fl.z2, Fl.z3]
        refine Fl.lit (N := 17) (cs := Ky.wc x) (t := 54) (n := 1) rfl rfl (by rfl) (fun w => by first | (go_simp; done) | (go_simp; rfl)) (fun b1 => ?_)
        simp only [Act.put, Fl.z1, Fl.z2, Fl.z3]
        refine Fl.call (some 18) Try.func58 (by kernel_rfl) rfl #[.agg #[.slice A0_0 l0_0.length c0_0], .slice (some ⟨b1, 0, none⟩) 1 1] rfl rfl rfl (by rfl) rfl (fun E W hE hi => ?_)
        refine (impl_areOn.calls k _ _ l0_0 _ _ [(⟨x.a, x.s, x.l, x.c⟩ : S54)] false W (Kd.C_below HR0.out hi.bel) HC0.out (Fl.c_one (hi.blk 0 rfl) (k54_mk _ ⟨x.a, x.s, x.l, x.c⟩)) (Nat.le_refl _) HT.out).mono ?_
        rintro e W' ⟨rfl, hb⟩
        refine Fl.keep (v := .bool false) hi hb ?_
        clear hi hb hE
        simp only [Act.put, Fl.z1, Fl.z2, Fl.z3]
        refine Fl.take (some 19) (v := .bool true) rfl rfl (Or.inl ⟨by rfl, fun _ _ => by rfl⟩) ?_
        simp only [Act.put, Fl.z1, Fl.z2, Fl.z3]
        refine Fl.take (some 20) (v := .bool true) rfl rfl (Or.inl ⟨by rfl, fun _ _ => by rfl⟩) ?_
        simp only [Act.put, Fl.z1, Fl.z2, Fl.z3]
        refine Fl.take (some 21) (v := undef) rfl rfl (Or.inr ⟨by rfl, rfl⟩) ?_
        simp only [Act.put, Fl.z1, Fl.z2, Fl.z3]
        refine Fl.take (some 22) (v := undef) rfl rfl (Or.inr ⟨by rfl, rfl⟩) ?_
        simp only [Act.put, Fl.z1, Fl.z2, Fl.z3]
        refine Fl.take (some 23) (v := undef) rfl rfl (Or.inr ⟨by rfl, rfl⟩) ?_
        simp only [Act.put, Fl.z1, Fl.z2, Fl.z3]
        refine Fl.take (some 24) (v := undef) rfl rfl (Or.inr ⟨by rfl, rfl⟩) ?_
        simp only [Act.put, Fl.z1, Fl.z2, Fl.z3]
        refine Fl.take (some 25) (v := undef) rfl rfl (Or.inr ⟨by rfl, rfl⟩) ?_
        simp only [Act.put, Fl.z1, Fl.z2, Fl.z3]
        refine Fl.take (some 26) (v := undef) rfl rfl (Or.inr ⟨by rfl, rfl⟩) ?_
        simp only [Act.put, Fl.z1, Fl.z2, Fl.z3]
        refine Fl.take (some 27) (v := undef) rfl rfl (Or.inr ⟨by rfl, rfl⟩) ?_
        simp only [Act.put, Fl.z1, Fl.z2, Fl.z3]
        refine Fl.take (some 28) (v := undef) rfl rfl (Or.inr ⟨by rfl, rfl⟩) ?_
        simp only [Act.put, Fl.z1, Fl.z2, Fl.z3]
        refine Fl.take (some 29) (v := undef) rfl rfl (Or.inr ⟨by rfl, rfl⟩) ?_
        simp only [Act.put, Fl.z1, Fl.z2, Fl.z3]
        refine Fl.take (some 30) (v := undef) rfl rfl (Or.inr ⟨by rfl, rfl⟩) ?_
        simp only [Act.put, Fl.z1, Fl.z2, Fl.z3]
        refine Fl.take (some 31) (v := undef) rfl rfl (Or.inr ⟨by rfl, rfl⟩) ?_
        simp only [Act.put, Fl.z1, Fl.z2, Fl.z3]
        refine Fl.take (some 32) (v := undef) rfl rfl (Or.inr ⟨by rfl, rfl⟩) ?_
        simp only [Act.put, Fl.z1, Fl.z2, Fl.z3]
        refine Fl.take (some 33) (v := undef) rfl rfl (Or.inr ⟨by rfl, rfl⟩) ?_
        simp only [Act.put, Fl.z1, Fl.z2, Fl.z3]
        refine Fl.take (some 34) (v := undef) rfl rfl (Or.inr ⟨by rfl, rfl⟩) ?_
        simp only [Act.put, Fl.z1, Fl.z2, Fl.z3]
        refine Fl.take (some 35) (v := .bool true) rfl rfl (Or.inl ⟨by rfl, fun _ _ => by rfl⟩) ?_
        simp only [Act.put, Fl.z1, Fl.z2, Fl.z3]
        refine Fl.fin0 ?_
        refine Fl.stopN (fun W hi => ?_)
        have HI2 := Lib.hid hi
        clear hi
        go_wp2
        go_ret
        exact ⟨rfl, HI2.out.bel⟩
      | true =>
        rw [if_pos rfl] at hg
        obtain ⟨t, ht, hg⟩ := Option.bind_eq_some_iff.mp hg
        by_cases hi0 : i = 0
        · subst hi0
          obtain rfl := Option.some.inj (show some true = some t from ht)
          rw [if_pos rfl] at hg
          have HG := Lib.hid (show impl_isTable.go k l0_0 n (Ky.prev l1 (0 + 1)) (l1.drop (0 + 1)) = some r by rw [HPV.out]; exact hg)
          clear hg hrow ht
          subst hA
          go_upto_region 3 with (fail)
          refine Fl.startL [.take 0, .take 1, .take 2, .one 3, .take 4, .one 5] (by decide) HI.out ?_
          refine Fl.take (some 11) (v := .int .i64 0) rfl rfl (Or.inl ⟨by rfl, fun _ _ => by rfl⟩) ?_
          simp only [Act.put, Fl.z1, Fl.z2, Fl.z3]
          refine Fl.take (some 12) (v := .pointer (some ⟨b, o, none⟩)) rfl rfl (Or.inl ⟨by rfl, fun _ _ => by first | rfl | (go_simp; done) | (go_simp; rfl) | (go_simp; omega)⟩) ?_
          simp only [Act.put, Fl.z1, Fl.z2, Fl.z3]
          refine Fl.take (some 13) (v := .agg (Ky.ec x)) rfl rfl (yieldsIf_load_mid (by rfl) 66 _ rfl b (o) rfl (Ky.ec x).toList _ (fun W1 hW1 => Ky.range_below HCx.out hW1.bel) Try.underlying66 rfl (by rw [Array.length_toList]; exact Ky.hEk HKx.out)) ?_
          simp only [Act.put, Fl.z1, Fl.z2, Fl.z3]
          refine Fl.var (N := 6) (cs := Ky.ec Ky.En0) (t := 66) ⟨_, rfl, rfl, fun _ => rfl, fun e w => by go_simp; rfl⟩ (fun be => ?_)
          simp only [Act.put, Fl.z1, Fl.z2, Fl.z3]
          refine Fl.take (some 5) (v := .int .i64 0) rfl rfl (Or.inl ⟨by rfl, fun _ _ => by rfl⟩) ?_
          simp only [Act.put, Fl.z1, Fl.z2, Fl.z3]
          refine Fl.store 0 (Ky.ec x) rfl rfl rfl rfl _ _ _ rfl rfl rfl (by rfl) (by rw [Ky.ec_size HKx.out, Ky.ec_size Ky.key_0]) (Ky.hEk HKx.out) (Ky.ec_one x) ?_
          refine Fl.stop (fun W hi => ?_)
          replace HI := Lib.hid hi
          clear hi
          go_upto_region 4 with (fail)
          refine Fl.start [([],[]),([],[]),([1],[1]),([2],[2]),([0,3],[0,3]),([4],[4]),([5,4],[5]),([6],[6]),([7,6],[6,7]),([8,6,6],[6,8]),([9],[9]),([9],[9]),([11,9],[9,11]),([10,12,9],[9,10,12]),([13,9],[9,13]),([14,9],[9,14]),([9],[9]),([16,9],[9,16]),([15,17,9,9],[9,15,17]),([18,9],[9,18]),([9,19,6],[6,9,19]),([6,20],[6,20])] [] 23 [.take 0, .take 1, .take 2, .one 3, .one 4, .take 5, .take 6, .take 7, .take 8, .take 9, .take 10, .take 11, .take 12, .take 13, .take 14, .take 15, .take 16, .take 17, .take 18, .take 19, .take 20, .take 21] [] (by kernel_rfl) (by kernel_rfl) (by decide) (by decide) (by kernel_rfl) (by kernel_rfl) Fl.mk0 HI.out ?_
          refine Fl.take (some 14) (v := .agg #[.slice A0_0 l0_0.length c0_0]) rfl rfl (Fl.ld 1 rfl (by rfl) _ _ rfl rfl Try.underlying32 rfl (by kernel_rfl)) ?_
          simp only [Act.put, Fl.z1, Fl.z2, Fl.z3]
          refine Fl.take (some 15) (v := .pointer (some ⟨be, 16, none⟩)) rfl rfl (Or.inl ⟨by rfl, fun _ _ => by first | rfl | (go_simp; done) | (go_simp; rfl) | (go_simp; omega)⟩) ?_
          simp only [Act.put, Fl.z1, Fl.z2, Fl.z3]
          refine Fl.take (some 16) (v := .agg (Ky.wc x)) rfl rfl (Fl.ldP 0 16 (Ky.wc x) rfl (by rfl) _ _ rfl rfl (Ky.ec_win HKx.out) Try.underlying54 rfl (by kernel_rfl)) ?_
          simp only [Act.put, Fl.z1, Fl.z2, Fl.z3]
          refine Fl.lit (N := 17) (cs := Ky.wc x) (t := 54) (n := 1) rfl rfl (by rfl) (fun w => by first | (go_simp; done) | (go_simp; rfl)) (fun b1 => ?_)
          simp only [Act.put, Fl.z1, Fl.z2, Fl.z3]
          refine Fl.call (some 18) Try.func58 (by kernel_rfl) rfl #[.agg #[.slice A0_0 l0_0.length c0_0], .slice (some ⟨b1, 0, none⟩) 1 1] rfl rfl rfl (by rfl) rfl (fun E W hE hi => ?_)
          refine (impl_areOn.calls k _ _ l0_0 _ _ [(⟨x.a, x.s, x.l, x.c⟩ : S54)] true W (Kd.C_below HR0.out hi.bel) HC0.out (Fl.c_one (hi.blk 0 rfl) (k54_mk _ ⟨x.a, x.s, x.l, x.c⟩)) (Nat.le_refl _) HT.out).mono ?_
          rintro e W' ⟨rfl, hb⟩
          refine Fl.keep (v := .bool true) hi hb ?_
          clear hi hb hE
          simp only [Act.put, Fl.z1, Fl.z2, Fl.z3]
          refine Fl.take (some 19) (v := .bool false) rfl rfl (Or.inl ⟨by rfl, fun _ _ => by rfl⟩) ?_
          simp only [Act.put, Fl.z1, Fl.z2, Fl.z3]
          refine Fl.take (some 20) (v := .bool false) rfl rfl (Or.inl ⟨by rfl, fun _ _ => by rfl⟩) ?_
          simp only [Act.put, Fl.z1, Fl.z2, Fl.z3]
          refine Fl.take (some 21) (v := .int .i64 0) rfl rfl (Or.inl ⟨by rfl, fun _ _ => by rfl⟩) ?_
          simp only [Act.put, Fl.z1, Fl.z2, Fl.z3]
          refine Fl.take (some 22) (v := .bool false) rfl rfl (Or.inl ⟨by rfl, fun _ _ => by first | rfl | (go_simp; done) | (go_simp; rfl) | (go_simp; omega)⟩) ?_
          simp only [Act.put, Fl.z1, Fl.z2, Fl.z3]
          refine Fl.take (some 23) (v := .bool false) rfl rfl (Or.inl ⟨by rfl, fun _ _ => by rfl⟩) ?_
          simp only [Act.put, Fl.z1, Fl.z2, Fl.z3]
          refine Fl.take (some 24) (v := undef) rfl rfl (Or.inr ⟨by rfl, rfl⟩) ?_
          simp only [Act.put, Fl.z1, Fl.z2, Fl.z3]
          refine Fl.take (some 25) (v := undef) rfl rfl (Or.inr ⟨by rfl, rfl⟩) ?_
          simp only [Act.put, Fl.z1, Fl.z2, Fl.z3]
          refine Fl.take (some 26) (v := undef) rfl rfl (Or.inr ⟨by rfl, rfl⟩) ?_
          simp only [Act.put, Fl.z1, Fl.z2, Fl.z3]
          refine Fl.take (some 27) (v := undef) rfl rfl (Or.inr ⟨by rfl, rfl⟩) ?_
          simp only [Act.put, Fl.z1, Fl.z2, Fl.z3]
          refine Fl.take (some 28) (v := undef) rfl rfl (Or.inr ⟨by rfl, rfl⟩) ?_
          simp only [Act.put, Fl.z1, Fl.z2, Fl.z3]
          refine Fl.take (some 29) (v := undef) rfl rfl (Or.inr ⟨by rfl, rfl⟩) ?_
          simp only [Act.put, Fl.z1, Fl.z2, Fl.z3]
          refine Fl.take (some 30) (v := undef) rfl rfl (Or.inr ⟨by rfl, rfl⟩) ?_
          simp only [Act.put, Fl.z1, Fl.z2, Fl.z3]
          refine Fl.take (some 31) (v := undef) rfl rfl (Or.inr ⟨by rfl, rfl⟩) ?_
          simp only [Act.put, Fl.z1, Fl.z2, Fl.z3]
          refine Fl.take (some 32) (v := undef) rfl rfl (Or.inr ⟨by rfl, rfl⟩) ?_
          simp only [Act.put, Fl.z1, Fl.z2, Fl.z3]
          refine Fl.take (some 33) (v := undef) rfl rfl (Or.inr ⟨by rfl, rfl⟩) ?_
          simp only [Act.put, Fl.z1, Fl.z2, Fl.z3]
          refine Fl.take (some 34) (v := .bool false) rfl rfl (Or.inl ⟨by rfl, fun _ _ => by rfl⟩) ?_
          simp only [Act.put, Fl.z1, Fl.z2, Fl.z3]
          refine Fl.take (some 35) (v := .bool false) rfl rfl (Or.inl ⟨by rfl, fun _ _ => by rfl⟩) ?_
          simp only [Act.put, Fl.z1, Fl.z2, Fl.z3]
          refine Fl.fin0 ?_
          refine Fl.stopN (fun W hi => ?_)
          have HI2 := Lib.hid hi
          clear hi
          go_wp2
          go_roundg (n - (0 + 1))
          case measure => have := HK.out; omega
          case rel => exact ⟨0 + 1, by go_num, Lib.hid (by have := HK.out; omega), HG, Lib.hid (Fl.inv_drop (N := [_, _]) HI2.out)⟩
        · obtain ⟨p, hp⟩ : ∃ p, l1[i - 1]? = some p := ⟨_, List.getElem?_eq_getElem (by have := HN.out; omega)⟩
          have HKp := Lib.hid (hrow (i - 1) p hp).1
          have HCp := Lib.hid (hrow (i - 1) p hp).2
          rw [show Ky.prev l1 i = some p from by unfold Ky.prev; rw [if_neg hi0]; exact hp, impl_isTable.cmp] at ht
          obtain ⟨cm, hcm, ht⟩ := Option.bind_eq_some_iff.mp ht
          obtain rfl := Option.some.inj ht
          have HL := Lib.hid hcm
          rw [show i - 1 = ((i : Int) - 1).toNat from by omega] at HCp
          have g0 : (0 : Int) ≤ (i : Int) - 1 := by omega
          have g1 : (i : Int) - 1 < (n : Int) := by omega
          have g2 : decide ((i : Int) > 0) = true := decide_eq_true (by omega)
          have g3 : IntKind.i64.wrap ((i : Int) - 1) = (i : Int) - 1 := by rw [IntKind.wrap_i64]; omega
          have g4 : (0 : Int) < (i : Int) := by omega
          have g7 : ((i : Int) < 1) = False := by simp; omega
          clear hp hrow hcm ht
          subst hA
          by_cases hlf : cm < 0
          · rw [if_pos (decide_eq_true hlf)] at hg
            have HG := Lib.hid (show impl_isTable.go k l0_0 n (Ky.prev l1 (i + 1)) (l1.drop (i + 1)) = some r by rw [HPV.out]; exact hg)
            clear hg
            go_upto_region 3 with (fail)
            refine Fl.startL [.take 0, .take 1, .take 2, .one 3, .take 4, .one 5] (by decide) HI.out ?_
            refine Fl.take (some 11) (v := .int .i64 (i : Int)) rfl rfl (Or.inl ⟨by rfl, fun _ _ => by rfl⟩) ?_
            simp only [Act.put, Fl.z1, Fl.z2, Fl.z3]
            refine Fl.take (some 12) (v := .pointer (some ⟨b, o + i * 20, none⟩)) rfl rfl (Or.inl ⟨by rfl, fun _ _ => by first | rfl | (go_simp; done) | (go_simp; rfl) | (go_simp; omega)⟩) ?_
            simp only [Act.put, Fl.z1, Fl.z2, Fl.z3]
            refine Fl.take (some 13) (v := .agg (Ky.ec x)) rfl rfl (yieldsIf_load_mid (by rfl) 66 _ rfl b (o + i * 20) rfl (Ky.ec x).toList _ (fun W1 hW1 => Ky.range_below HCx.out hW1.bel) Try.underlying66 rfl (by rw [Array.length_toList]; exact Ky.hEk HKx.out)) ?_
            simp only [Act.put, Fl.z1, Fl.z2, Fl.z3]
            refine Fl.var (N := 6) (cs := Ky.ec Ky.En0) (t := 66) ⟨_, rfl, rfl, fun _ => rfl, fun e w => by go_simp; rfl⟩ (fun be => ?_)
            simp only [Act.put, Fl.z1, Fl.z2, Fl.z3]
            refine Fl.take (some 5) (v := .int .i64 (i : Int)) rfl rfl (Or.inl ⟨by rfl, fun _ _ => by rfl⟩) ?_
            simp only [Act.put, Fl.z1, Fl.z2, Fl.z3]
            refine Fl.store 0 (Ky.ec x) rfl rfl rfl rfl _ _ _ rfl rfl rfl (by rfl) (by rw [Ky.ec_size HKx.out, Ky.ec_size Ky.key_0]) (Ky.hEk HKx.out) (Ky.ec_one x) ?_
            refine Fl.stop (fun W hi => ?_)
            replace HI := Lib.hid hi
            clear hi
            go_upto_region 4 with (fail)
            refine Fl.start [([],[]),([],[]),([1],[1]),([2],[2]),([0,3],[0,3]),([4],[4]),([5,4],[5]),([6],[6]),([7,6],[6,7]),([8,6,6],[6,8]),([9],[9]),([9],[9]),([11,9],[9,11]),([10,12,9],[9,10,12]),([13,9],[9,13]),([14,9],[9,14]),([9],[9]),([16,9],[9,16]),([15,17,9,9],[9,15,17]),([18,9],[9,18]),([9,19,6],[6,9,19]),([6,20],[6,20])] [] 23 [.take 0, .take 1, .take 2, .one 3, .one 4, .take 5, .take 6, .take 7, .take 8, .take 9, .take 10, .take 11, .take 12, .take 13, .take 14, .take 15, .take 16, .take 17, .one 18, .take 19, .take 20, .take 21] [] (by kernel_rfl) (by kernel_rfl) (by decide) (by decide) (by kernel_rfl) (by kernel_rfl) Fl.mk0 HI.out ?_
            refine Fl.take (some 14) (v := .agg #[.slice A0_0 l0_0.length c0_0]) rfl rfl (Fl.ld 1 rfl (by rfl) _ _ rfl rfl Try.underlying32 rfl (by kernel_rfl)) ?_
            simp only [Act.put, Fl.z1, Fl.z2, Fl.z3]
            refine Fl.take (some 15) (v := .pointer (some ⟨be, 16, none⟩)) rfl rfl (Or.inl ⟨by rfl, fun _ _ => by first | rfl | (go_simp; done) | (go_simp; rfl) | (go_simp; omega)⟩) ?_
            simp only [Act.put, Fl.z1, Fl.z2, Fl.z3]
            refine Fl.take (some 16) (v := .agg (Ky.wc x)) rfl rfl (Fl.ldP 0 16 (Ky.wc x) rfl (by rfl) _ _ rfl rfl (Ky.ec_win HKx.out) Try.underlying54 rfl (by kernel_rfl)) ?_
            simp only [Act.put, Fl.z1, Fl.z2, Fl.z3]
            refine Fl.lit (N := 17) (cs := Ky.wc x) (t := 54) (n := 1) rfl rfl (by rfl) (fun w => by first | (go_simp; done) | (go_simp; rfl)) (fun b1 => ?_)
            simp only [Act.put, Fl.z1, Fl.z2, Fl.z3]
            refine Fl.call (some 18) Try.func58 (by kernel_rfl) rfl #[.agg #[.slice A0_0 l0_0.length c0_0], .slice (some ⟨b1, 0, none⟩) 1 1] rfl rfl rfl (by rfl) rfl (fun E W hE hi => ?_)
            refine (impl_areOn.calls k _ _ l0_0 _ _ [(⟨x.a, x.s, x.l, x.c⟩ : S54)] true W (Kd.C_below HR0.out hi.bel) HC0.out (Fl.c_one (hi.blk 0 rfl) (k54_mk _ ⟨x.a, x.s, x.l, x.c⟩)) (Nat.le_refl _) HT.out).mono ?_
            rintro e W' ⟨rfl, hb⟩
            refine Fl.keep (v := .bool true) hi hb ?_
            clear hi hb hE
            simp only [Act.put, Fl.z1, Fl.z2, Fl.z3]
            refine Fl.take (some 19) (v := .bool false) rfl rfl (Or.inl ⟨by rfl, fun _ _ => by rfl⟩) ?_
            simp only [Act.put, Fl.z1, Fl.z2, Fl.z3]
            refine Fl.take (some 20) (v := .bool false) rfl rfl (Or.inl ⟨by rfl, fun _ _ => by rfl⟩) ?_
            simp only [Act.put, Fl.z1, Fl.z2, Fl.z3]
            refine Fl.take (some 21) (v := .int .i64 (i : Int)) rfl rfl (Or.inl ⟨by rfl, fun _ _ => by rfl⟩) ?_
            simp only [Act.put, Fl.z1, Fl.z2, Fl.z3]
            refine Fl.take (some 22) (v := .bool true) rfl rfl (Or.inl ⟨by rfl, fun _ _ => by first | rfl | (go_simp; done) | (go_simp; rfl) | (go_simp; omega)⟩) ?_
            simp only [Act.put, Fl.z1, Fl.z2, Fl.z3]
            refine Fl.take (some 23) (v := .bool true) rfl rfl (Or.inl ⟨by rfl, fun _ _ => by rfl⟩) ?_
            simp only [Act.put, Fl.z1, Fl.z2, Fl.z3]
            refine Fl.take (some 24) (v := .slice (some ⟨b, o, none⟩) n c1) rfl rfl (Or.inl ⟨by rfl, fun _ _ => by rfl⟩) ?_
            simp only [Act.put, Fl.z1, Fl.z2, Fl.z3]
            refine Fl.take (some 25) (v := .int .i64 (i : Int)) rfl rfl (Or.inl ⟨by rfl, fun _ _ => by rfl⟩) ?_
            simp only [Act.put, Fl.z1, Fl.z2, Fl.z3]
            refine Fl.take (some 26) (v := .int .i64 ((i : Int) - 1)) rfl rfl (Or.inl ⟨by rfl, fun _ _ => by first | rfl | (go_simp; done) | (go_simp; rfl) | (go_simp; omega)⟩) ?_
            simp only [Act.put, Fl.z1, Fl.z2, Fl.z3]
            refine Fl.take (some 27) (v := .pointer (some ⟨b, o + ((i : Int) - 1).toNat * 20, none⟩)) rfl rfl (Or.inl ⟨by rfl, fun _ _ => by first | rfl | (go_simp; done) | (go_simp; rfl) | (go_simp; omega)⟩) ?_
            simp only [Act.put, Fl.z1, Fl.z2, Fl.z3]
            refine Fl.take (some 28) (v := .pointer (some ⟨b, o + ((i : Int) - 1).toNat * 20, none⟩)) rfl rfl (Or.inl ⟨by rfl, fun _ _ => by first | rfl | (go_simp; done) | (go_simp; rfl) | (go_simp; omega)⟩) ?_
            simp only [Act.put, Fl.z1, Fl.z2, Fl.z3]
            refine Fl.take (some 29) (v := .agg (Ky.bs p.key)) rfl rfl (yieldsIf_load_mid (by rfl) 26 _ rfl b (o + ((i : Int) - 1).toNat * 20) rfl (Ky.bs p.key).toList _ (fun W1 hW1 => Ky.range_below (Ky.range_ekey HKp.out HCp.out) hW1.bel) Ky.hK rfl (by rw [Array.length_toList]; exact Ky.hKk HKp.out)) ?_
            simp only [Act.put, Fl.z1, Fl.z2, Fl.z3]
            refine Fl.take (some 30) (v := .pointer (some ⟨be, 0, none⟩)) rfl rfl (Or.inl ⟨by rfl, fun _ _ => by first | rfl | (go_simp; done) | (go_simp; rfl) | (go_simp; omega)⟩) ?_
            simp only [Act.put, Fl.z1, Fl.z2, Fl.z3]
            refine Fl.take (some 31) (v := .agg (Ky.bs x.key)) rfl rfl (Fl.ldP 0 0 (Ky.bs x.key) rfl (by rfl) _ _ rfl rfl (Ky.ec_key HKx.out) Ky.hK rfl (Ky.hKk HKx.out)) ?_
            simp only [Act.put, Fl.z1, Fl.z2, Fl.z3]
            refine Fl.call (some 32) Try.func41 (by kernel_rfl) rfl #[.agg (Ky.bs p.key), .agg (Ky.bs x.key)] rfl rfl rfl (by rfl) rfl (fun E W hE hi => ?_)
            refine (impl_compareKeys.calls p.key x.key cm W HKp.out HKx.out HL.out).mono ?_
            rintro e W' ⟨rfl, hb⟩
            refine Fl.keep (v := .int .i64 cm) hi hb ?_
            clear hi hb hE
            simp only [Act.put, Fl.z1, Fl.z2, Fl.z3]
            refine Fl.take (some 33) (v := .bool false) rfl rfl (Or.inl ⟨by rfl, fun _ _ => by first | rfl | (go_simp; done) | (go_simp; rfl) | (go_simp; omega)⟩) ?_
            simp only [Act.put, Fl.z1, Fl.z2, Fl.z3]
            refine Fl.take (some 34) (v := .bool false) rfl rfl (Or.inl ⟨by rfl, fun _ _ => by rfl⟩) ?_
            simp only [Act.put, Fl.z1, Fl.z2, Fl.z3]
            refine Fl.take (some 35) (v := .bool false) rfl rfl (Or.inl ⟨by rfl, fun _ _ => by rfl⟩) ?_
            simp only [Act.put, Fl.z1, Fl.z2, Fl.z3]
            refine Fl.fin0 ?_
            refine Fl.stopN (fun W hi => ?_)
            have HI2 := Lib.hid hi
            clear hi
            go_wp2
            go_roundg (n - (i + 1))
            case measure => have := HK.out; omega
            case rel => exact ⟨i + 1, by go_num, Lib.hid (by have := HK.out; omega), HG, Lib.hid (Fl.inv_drop (N := [_, _]) HI2.out)⟩
          · rw [if_neg (by rw [decide_eq_false hlf]; decide)] at hg
            obtain rfl := Option.some.inj hg
            clear hg
            go_upto_region 3 with (fail)
            refine Fl.startL [.take 0, .take 1, .take 2, .one 3, .take 4, .one 5] (by decide) HI.out ?_
            refine Fl.take (some 11) (v := .int .i64 (i : Int)) rfl rfl (Or.inl ⟨by rfl, fun _ _ => by rfl⟩) ?_
            simp only [Act.put, Fl.z1, Fl.z2, Fl.z3]
            refine Fl.take (some 12) (v := .pointer (some ⟨b, o + i * 20, none⟩)) rfl rfl (Or.inl ⟨by rfl, fun _ _ => by first | rfl | (go_simp; done) | (go_simp; rfl) | (go_simp; omega)⟩) ?_
            simp only [Act.put, Fl.z1, Fl.z2, Fl.z3]
            refine Fl.take (some 13) (v := .agg (Ky.ec x)) rfl rfl (yieldsIf_load_mid (by rfl) 66 _ rfl b (o + i * 20) rfl (Ky.ec x).toList _ (fun W1 hW1 => Ky.range_below HCx.out hW1.bel) Try.underlying66 rfl (by rw [Array.length_toList]; exact Ky.hEk HKx.out)) ?_
            simp only [Act.put, Fl.z1, Fl.z2, Fl.z3]
            refine Fl.var (N := 6) (cs := Ky.ec Ky.En0) (t := 66) ⟨_, rfl, rfl, fun _ => rfl, fun e w => by go_simp; rfl⟩ (fun be => ?_)
            simp only [Act.put, Fl.z1, Fl.z2, Fl.z3]
            refine Fl.take (some 5) (v := .int .i64 (i : Int)) rfl rfl (Or.inl ⟨by rfl, fun _ _ => by rfl⟩) ?_
            simp only [Act.put, Fl.z1, Fl.z2, Fl.z3]
            refine Fl.store 0 (Ky.ec x) rfl rfl rfl rfl _ _ _ rfl rfl rfl (by rfl) (by rw [Ky.ec_size HKx.out, Ky.ec_size Ky.key_0]) (Ky.hEk HKx.out) (Ky.ec_one x) ?_
            refine Fl.stop (fun W hi => ?_)
            replace HI := Lib.hid hi
            clear hi
            go_upto_region 4 with (fail)
            refine Fl.start [([],[]),([],[]),([1],[1]),([2],[2]),([0,3],[0,3]),([4],[4]),([5,4],[5]),([6],[6]),([7,6],[6,7]),([8,6,6],[6,8]),([9],[9]),([9],[9]),([11,9],[9,11]),([10,12,9],[9,10,12]),([13,9],[9,13]),([14,9],[9,14]),([9],[9]),([16,9],[9,16]),([15,17,9,9],[9,15,17]),([18,9],[9,18]),([9,19,6],[6,9,19]),([6,20],[6,20])] [] 23 [.take 0, .take 1, .take 2, .one 3, .one 4, .take 5, .take 6, .take 7, .take 8, .take 9, .take 10, .take 11, .take 12, .take 13, .take 14, .take 15, .take 16, .take 17, .one 18, .take 19, .take 20, .take 21] [] (by kernel_rfl) (by kernel_rfl) (by decide) (by decide) (by kernel_rfl) (by kernel_rfl) Fl.mk0 HI.out ?_
            refine Fl.take (some 14) (v := .agg #[.slice A0_0 l0_0.length c0_0]) rfl rfl (Fl.ld 1 rfl (by rfl) _ _ rfl rfl Try.underlying32 rfl (by kernel_rfl)) ?_
            simp only [Act.put, Fl.z1, Fl.z2, Fl.z3]
            refine Fl.take (some 15) (v := .pointer (some ⟨be, 16, none⟩)) rfl rfl (Or.inl ⟨by rfl, fun _ _ => by first | rfl | (go_simp; done) | (go_simp; rfl) | (go_simp; omega)⟩) ?_
            simp only [Act.put, Fl.z1, Fl.z2, Fl.z3]
            refine Fl.take (some 16) (v := .agg (Ky.wc x)) rfl rfl (Fl.ldP 0 16 (Ky.wc x) rfl (by rfl) _ _ rfl rfl (Ky.ec_win HKx.out) Try.underlying54 rfl (by kernel_rfl)) ?_
            simp only [Act.put, Fl.z1, Fl.z2, Fl.z3]
            refine Fl.lit (N := 17) (cs := Ky.wc x) (t := 54) (n := 1) rfl rfl (by rfl) (fun w => by first | (go_simp; done) | (go_simp; rfl)) (fun b1 => ?_)
            simp only [Act.put, Fl.z1, Fl.z2, Fl.z3]
            refine Fl.call (some 18) Try.func58 (by kernel_rfl) rfl #[.agg #[.slice A0_0 l0_0.length c0_0], .slice (some ⟨b1, 0, none⟩) 1 1] rfl rfl rfl (by rfl) rfl (fun E W hE hi => ?_)
            refine (impl_areOn.calls k _ _ l0_0 _ _ [(⟨x.a, x.s, x.l, x.c⟩ : S54)] true W (Kd.C_below HR0.out hi.bel) HC0.out (Fl.c_one (hi.blk 0 rfl) (k54_mk _ ⟨x.a, x.s, x.l, x.c⟩)) (Nat.le_refl _) HT.out).mono ?_
            rintro e W' ⟨rfl, hb⟩
            refine Fl.keep (v := .bool true) hi hb ?_
            clear hi hb hE
            simp only [Act.put, Fl.z1, Fl.z2, Fl.z3]
            refine Fl.take (some 19) (v := .bool false) rfl rfl (Or.inl ⟨by rfl, fun _ _ => by rfl⟩) ?_
            simp only [Act.put, Fl.z1, Fl.z2, Fl.z3]
            refine Fl.take (some 20) (v := .bool false) rfl rfl (Or.inl ⟨by rfl, fun _ _ => by rfl⟩) ?_
            simp only [Act.put, Fl.z1, Fl.z2, Fl.z3]
            refine Fl.take (some 21) (v := .int .i64 (i : Int)) rfl rfl (Or.inl ⟨by rfl, fun _ _ => by rfl⟩) ?_
            simp only [Act.put, Fl.z1, Fl.z2, Fl.z3]
            refine Fl.take (some 22) (v := .bool true) rfl rfl (Or.inl ⟨by rfl, fun _ _ => by first | rfl | (go_simp; done) | (go_simp; rfl) | (go_simp; omega)⟩) ?_
            simp only [Act.put, Fl.z1, Fl.z2, Fl.z3]
            refine Fl.take (some 23) (v := .bool true) rfl rfl (Or.inl ⟨by rfl, fun _ _ => by rfl⟩) ?_
            simp only [Act.put, Fl.z1, Fl.z2, Fl.z3]
            refine Fl.take (some 24) (v := .slice (some ⟨b, o, none⟩) n c1) rfl rfl (Or.inl ⟨by rfl, fun _ _ => by rfl⟩) ?_
            simp only [Act.put, Fl.z1, Fl.z2, Fl.z3]
            refine Fl.take (some 25) (v := .int .i64 (i : Int)) rfl rfl (Or.inl ⟨by rfl, fun _ _ => by rfl⟩) ?_
            simp only [Act.put, Fl.z1, Fl.z2, Fl.z3]
            refine Fl.take (some 26) (v := .int .i64 ((i : Int) - 1)) rfl rfl (Or.inl ⟨by rfl, fun _ _ => by first | rfl | (go_simp; done) | (go_simp; rfl) | (go_simp; omega)⟩) ?_
            simp only [Act.put, Fl.z1, Fl.z2, Fl.z3]
            refine Fl.take (some 27) (v := .pointer (some ⟨b, o + ((i : Int) - 1).toNat * 20, none⟩)) rfl rfl (Or.inl ⟨by rfl, fun _ _ => by first | rfl | (go_simp; done) | (go_simp; rfl) | (go_simp; omega)⟩) ?_
            simp only [Act.put, Fl.z1, Fl.z2, Fl.z3]
            refine Fl.take (some 28) (v := .pointer (some ⟨b, o + ((i : Int) - 1).toNat * 20, none⟩)) rfl rfl (Or.inl ⟨by rfl, fun _ _ => by first | rfl | (go_simp; done) | (go_simp; rfl) | (go_simp; omega)⟩) ?_
            simp only [Act.put, Fl.z1, Fl.z2, Fl.z3]
            refine Fl.take (some 29) (v := .agg (Ky.bs p.key)) rfl rfl (yieldsIf_load_mid (by rfl) 26 _ rfl b (o + ((i : Int) - 1).toNat * 20) rfl (Ky.bs p.key).toList _ (fun W1 hW1 => Ky.range_below (Ky.range_ekey HKp.out HCp.out) hW1.bel) Ky.hK rfl (by rw [Array.length_toList]; exact Ky.hKk HKp.out)) ?_
            simp only [Act.put, Fl.z1, Fl.z2, Fl.z3]
            refine Fl.take (some 30) (v := .pointer (some ⟨be, 0, none⟩)) rfl rfl (Or.inl ⟨by rfl, fun _ _ => by first | rfl | (go_simp; done) | (go_simp; rfl) | (go_simp; omega)⟩) ?_
            simp only [Act.put, Fl.z1, Fl.z2, Fl.z3]
            refine Fl.take (some 31) (v := .agg (Ky.bs x.key)) rfl rfl (Fl.ldP 0 0 (Ky.bs x.key) rfl (by rfl) _ _ rfl rfl (Ky.ec_key HKx.out) Ky.hK rfl (Ky.hKk HKx.out)) ?_
            simp only [Act.put, Fl.z1, Fl.z2, Fl.z3]
            refine Fl.call (some 32) Try.func41 (by kernel_rfl) rfl #[.agg (Ky.bs p.key), .agg (Ky.bs x.key)] rfl rfl rfl (by rfl) rfl (fun E W hE hi => ?_)
            refine (impl_compareKeys.calls p.key x.key cm W HKp.out HKx.out HL.out).mono ?_
            rintro e W' ⟨rfl, hb⟩
            refine Fl.keep (v := .int .i64 cm) hi hb ?_
            clear hi hb hE
            simp only [Act.put, Fl.z1, Fl.z2, Fl.z3]
            refine Fl.take (some 33) (v := .bool true) rfl rfl (Or.inl ⟨by rfl, fun _ _ => by first | rfl | (go_simp; done) | (go_simp; rfl) | (go_simp; omega)⟩) ?_
            simp only [Act.put, Fl.z1, Fl.z2, Fl.z3]
            refine Fl.take (some 34) (v := .bool true) rfl rfl (Or.inl ⟨by rfl, fun _ _ => by rfl⟩) ?_
            simp only [Act.put, Fl.z1, Fl.z2, Fl.z3]
            refine Fl.take (some 35) (v := .bool true) rfl rfl (Or.inl ⟨by rfl, fun _ _ => by rfl⟩) ?_
            simp only [Act.put, Fl.z1, Fl.z2, Fl.z3]
            refine Fl.fin0 ?_
            refine Fl.stopN (fun W hi => ?_)
            have HI2 := Lib.hid hi
            clear hi
            go_wp2
            go_ret
            exact ⟨rfl, HI2.out.bel⟩
    · have hg : impl_isTable.fin k l0_0 n = some r := by
        have hg := HG.out
        rw [List.drop_eq_nil_of_le (by have := HN.out; omega), impl_isTable.go] at hg
        exact hg
      clear HG
      have h4 : ¬ (i : Int) < (n : Int) := by omega
      rw [impl_isTable.fin] at hg
      obtain ⟨t, ht, hg⟩ := Option.bind_eq_some_iff.mp hg
      obtain rfl := Option.some.inj hg
      have HT := Lib.hid ht
      clear ht hg
      cases t with
      | true =>
        go_upto_region 7 with (fail)
        refine Fl.startL [.take 0, .one 1, .take 2, .take 3, .take 4, .take 5, .take 6, .take 7] (by decide) HI.out ?_
        refine Fl.take (some 37) (v := .agg #[.slice A0_0 l0_0.length c0_0]) rfl rfl (Fl.ld 0 rfl (by rfl) _ _ rfl rfl Try.underlying32 rfl (by kernel_rfl)) ?_
        simp only [Act.put, Fl.z1, Fl.z2, Fl.z3]
        refine Fl.call (some 38) Try.func68 (by kernel_rfl) rfl #[.agg #[.slice A0_0 l0_0.length c0_0]] rfl rfl rfl (by rfl) rfl (fun E W hE hi => ?_)
        refine (impl_IsMemory.calls k _ _ l0_0 true W (Kd.C_below HR0.out hi.bel) HC0.out HT.out).mono ?_
        rintro e W' ⟨rfl, hb⟩
        refine Fl.keep (v := .bool true) hi hb ?_
        clear hi hb hE
        simp only [Act.put, Fl.z1, Fl.z2, Fl.z3]
        refine Fl.take (some 39) (v := .bool true) rfl rfl (Or.inl ⟨by rfl, fun _ _ => by rfl⟩) ?_
        simp only [Act.put, Fl.z1, Fl.z2, Fl.z3]
        refine Fl.take (some 40) (v := .slice A1 n c1) rfl rfl (Or.inl ⟨by rfl, fun _ _ => by rfl⟩) ?_
        simp only [Act.put, Fl.z1, Fl.z2, Fl.z3]
        refine Fl.take (some 41) (v := .int .i64 (n : Int)) rfl rfl (Or.inl ⟨by rfl, fun _ _ => by first | rfl | (go_simp; done) | (go_simp; rfl) | (go_simp; omega)⟩) ?_
        simp only [Act.put, Fl.z1, Fl.z2, Fl.z3]
        refine Fl.take (some 42) (v := .bool (decide ((n : Int) ≤ 12))) rfl rfl (Or.inl ⟨by rfl, fun _ _ => by first | rfl | (go_simp; done) | (go_simp; rfl) | (go_simp; omega)⟩) ?_
        simp only [Act.put, Fl.z1, Fl.z2, Fl.z3]
        refine Fl.take (some 43) (v := .bool (decide ((n : Int) ≤ 12))) rfl rfl (Or.inl ⟨by rfl, fun _ _ => by rfl⟩) ?_
        simp only [Act.put, Fl.z1, Fl.z2, Fl.z3]
        refine Fl.take (some 4) (v := .bool (decide ((n : Int) ≤ 12))) rfl rfl (Or.inl ⟨by rfl, fun _ _ => by rfl⟩) ?_
        simp only [Act.put, Fl.z1, Fl.z2, Fl.z3]
        refine Fl.stop (fun W hi => ?_)
        replace HI := Lib.hid hi
        clear hi
        go_wp2
        go_ret
        exact ⟨rfl, HI.out.bel⟩
      | false =>
        go_upto_region 7 with (fail)
        refine Fl.startL [.take 0, .one 1, .take 2, .take 3, .take 4, .take 5, .take 6, .take 7] (by decide) HI.out ?_
        refine Fl.take (some 37) (v := .agg #[.slice A0_0 l0_0.length c0_0]) rfl rfl (Fl.ld 0 rfl (by rfl) _ _ rfl rfl Try.underlying32 rfl (by kernel_rfl)) ?_
        simp only [Act.put, Fl.z1, Fl.z2, Fl.z3]
        refine Fl.call (some 38) Try.func68 (by kernel_rfl) rfl #[.agg #[.slice A0_0 l0_0.length c0_0]] rfl rfl rfl (by rfl) rfl (fun E W hE hi => ?_)
        refine (impl_IsMemory.calls k _ _ l0_0 false W (Kd.C_below HR0.out hi.bel) HC0.out HT.out).mono ?_
        rintro e W' ⟨rfl, hb⟩
        refine Fl.keep (v := .bool false) hi hb ?_
        clear hi hb hE
        simp only [Act.put, Fl.z1, Fl.z2, Fl.z3]
        refine Fl.take (some 39) (v := .bool false) rfl rfl (Or.inl ⟨by rfl, fun _ _ => by rfl⟩) ?_
        simp only [Act.put, Fl.z1, Fl.z2, Fl.z3]
        refine Fl.take (some 40) (v := undef) rfl rfl (Or.inr ⟨by rfl, rfl⟩) ?_
        simp only [Act.put, Fl.z1, Fl.z2, Fl.z3]
        refine Fl.take (some 41) (v := undef) rfl rfl (Or.inr ⟨by rfl, rfl⟩) ?_
        simp only [Act.put, Fl.z1, Fl.z2, Fl.z3]
        refine Fl.take (some 42) (v := undef) rfl rfl (Or.inr ⟨by rfl, rfl⟩) ?_
        simp only [Act.put, Fl.z1, Fl.z2, Fl.z3]
        refine Fl.take (some 43) (v := .bool false) rfl rfl (Or.inl ⟨by rfl, fun _ _ => by rfl⟩) ?_
        simp only [Act.put, Fl.z1, Fl.z2, Fl.z3]
        refine Fl.take (some 4) (v := .bool false) rfl rfl (Or.inl ⟨by rfl, fun _ _ => by rfl⟩) ?_
        simp only [Act.put, Fl.z1, Fl.z2, Fl.z3]
        refine Fl.stop (fun W hi => ?_)
        replace HI := Lib.hid hi
        clear hi
        go_wp2
        go_ret
        exact ⟨rfl, HI.out.bel⟩

/-! ### impl_Entry_16_byte: function 74 (by hand) -/
def impl_Entry_16_byte.cl (x : Ky.En) (a1 : List Int) : Option Int := impl_compareKeys.f x.key a1
set_option maxHeartbeats 4000000 in
set_option maxRecDepth 100000 in
theorem impl_Entry_16_byte.clos (x : Ky.En) (a1 : List Int) (r : Int) (w : World) (hx : Ky.Key x.key) (hk1 : Ky.Key a1) (h : impl_Entry_16_byte.cl x a1 = some r) :
    Calls Try.prog 75 #[.agg (Ky.ec x), .agg (Ky.bs a1)] w fun e w' => e = .returned (.int .i64 r) ∧ Below w.heap.size w w' := by
  have HX := Lib.hid hx
  have HA := Lib.hid hk1
  have HH := Lib.hid (show impl_compareKeys.f x.key a1 = some r from h)
  clear hx hk1 h
  obtain ⟨W0, hW⟩ : ∃ W, W = (w.alloc (.cells (Ky.ec x) 66)).alloc (.cells (Ky.bs a1) 26) := ⟨_, rfl⟩
  have HI : Hid (Lv.Inv w W0 [Lv.boxF (w.heap.size + 1) (Ky.bs a1) 26, Lv.boxF (w.heap.size) (Ky.ec x) 66]) := by
    subst hW
    have := ((Lv.Inv.refl w).box (Ky.ec x) 66).box (Ky.bs a1) 26
    exact Lib.hid (by simpa using this)
  go_enter Try.func75, Try.ntmps75
  go_upto_region 1 with (fail)
  rw [← hW]
  clear hW
  refine Fl.startL [.take 0, .take 1, .take 2, .one 3, .take 4] (by decide) HI.out ?_
  refine Fl.take (some 5) (v := .pointer (some ⟨w.heap.size, 0, none⟩)) rfl rfl (Or.inl ⟨by rfl, fun _ _ => by first | rfl | (go_simp; done) | (go_simp; rfl) | (go_simp; omega)⟩) ?_
  simp only [Act.put, Fl.z1, Fl.z2, Fl.z3]
  refine Fl.take (some 6) (v := .agg (Ky.bs x.key)) rfl rfl (Fl.ldP 1 0 (Ky.bs x.key) rfl (by rfl) _ _ rfl rfl (Ky.ec_key HX.out) Ky.hK rfl (Ky.hKk HX.out)) ?_
  simp only [Act.put, Fl.z1, Fl.z2, Fl.z3]
  refine Fl.take (some 7) (v := .agg (Ky.bs a1)) rfl rfl (Fl.ld 0 rfl (by rfl) _ _ rfl rfl Ky.hK rfl (Ky.hKk HA.out)) ?_
  simp only [Act.put, Fl.z1, Fl.z2, Fl.z3]
  refine Fl.call (some 8) Try.func41 (by kernel_rfl) rfl #[.agg (Ky.bs x.key), .agg (Ky.bs a1)] rfl rfl rfl (by rfl) rfl (fun E W hE hi => ?_)
  refine (impl_compareKeys.calls x.key a1 r W HX.out HA.out HH.out).mono ?_
  rintro e W' ⟨rfl, hb⟩
  refine Fl.keep (v := .int .i64 r) hi hb ?_
  clear hi hb hE
  simp only [Act.put, Fl.z1, Fl.z2, Fl.z3]
  refine Fl.take (some 4) (v := .int .i64 r) rfl rfl (Or.inl ⟨by rfl, fun _ _ => by rfl⟩) ?_
  simp only [Act.put, Fl.z1, Fl.z2, Fl.z3]
  refine Fl.stop (fun W hi => ?_)
  have HI2 := Lib.hid hi
  clear hi
  go_wp2
  go_ret
  exact ⟨rfl, HI2.out.bel⟩
def impl_Entry_16_byte.f (l0 : List Ky.En) (a1 : List Int) : Option (Int × Bool) := if l0.length ≤ 1048576 then (Ky.halve l0 (fun x => impl_Entry_16_byte.cl x a1) (l0.length + 1) 0 l0.length).bind fun lo => match l0[lo]? with
  | some x => (impl_Entry_16_byte.cl x a1).bind fun c => some ((lo : Int), decide (c = 0))
  | none => some ((lo : Int), false) else none
set_option maxHeartbeats 4000000 in
set_option maxRecDepth 100000 in
theorem impl_Entry_16_byte.calls (A0 : Option Addr) (c0 : Nat) (l0 : List Ky.En) (a1 : List Int) (r1 : Int) (r2 : Bool) (w : World) (hr0 : Kd.C Ky.ke w A0 l0.length l0) (hc0 : l0.length ≤ c0) (hk1 : Ky.Key a1) (h : impl_Entry_16_byte.f l0 a1 = some (r1, r2)) :
    Calls Try.prog 74 #[.slice A0 l0.length c0, .agg (Ky.bs a1), .func (.func 75) #[] #[]] w fun e w' => e = .returned (.tuple #[.int .i64 r1, .bool r2]) ∧ Below w.heap.size w w' := by
  have HR0 := Lib.hid hr0
  have HA := Lib.hid hk1
  clear hr0 hc0 hk1
  unfold impl_Entry_16_byte.f at h
  obtain ⟨hle, h⟩ := Ky.of_condO h
  obtain ⟨lo0, h1, h⟩ := Option.bind_eq_some_iff.mp h
  obtain ⟨n, hn⟩ : ∃ n, n = l0.length := ⟨_, rfl⟩
  rw [← hn] at hle h1 ⊢
  have HN := Lib.hid hn
  have HM := Lib.hid hle
  have HH := Lib.hid h
  have H1 := Lib.hid h1
  clear hn h h1 hle
  obtain ⟨W0, hW⟩ : ∃ W, W = w.alloc (.cells (Ky.bs a1) 26) := ⟨_, rfl⟩
  have HI : Hid (Lv.Inv w W0 [Lv.boxF (w.heap.size) (Ky.bs a1) 26]) := by
    subst hW
    have := (Lv.Inv.refl w).box (Ky.bs a1) 26
    exact Lib.hid (by simpa using this)
  go_enter Try.func74, Try.ntmps74
  go_upto_region 1 with (fail)
  rw [← hW]
  clear hW
  go_wp2
  go_loopg [9, 10, 11] (n + 1) (fun gg s9 s10 _ wr => ∃ (lo hi : Nat), s9 = .int .i64 lo ∧ s10 = .int .i64 hi ∧ Hid (lo ≤ hi ∧ hi ≤ n) ∧ Hid (∃ d, d ≤ gg ∧ Ky.halve l0 (fun x => impl_Entry_16_byte.cl x a1) d lo hi = some lo0) ∧ Hid (Lv.Inv w wr [Lv.boxF (w.heap.size) (Ky.bs a1) 26]))
  case atStart => exact ⟨0, n, rfl, rfl, Lib.hid (by omega), Lib.hid ⟨n + 1, Nat.le_refl _, H1.out⟩, HI⟩
  case round =>
    clear HI H1
    obtain ⟨lo, hi, rfl, rfl, HB, HG, HI⟩ := hrel
    obtain ⟨d, hd, hg⟩ := HG.out
    cases d with
    | zero => simp [Ky.halve] at hg
    | succ d =>
    rw [Ky.halve] at hg
    have HD := Lib.hid hd
    clear HG hd
    by_cases hlt : lo < hi
    · rw [if_pos hlt] at hg
      obtain ⟨m, hm⟩ : ∃ m, m = (lo + hi) / 2 := ⟨_, rfl⟩
      rw [← hm] at hg
      have hm1 : lo ≤ m ∧ m < hi := by omega
      have HMM := Lib.hid hm1
      have hmn : m < n := by have := HB.out; omega
      obtain ⟨x, hx, hg⟩ := Option.bind_eq_some_iff.mp hg
      obtain ⟨c, hc, hg⟩ := Option.bind_eq_some_iff.mp hg
      have HT := Lib.hid hc
      obtain ⟨b, o, hA, hrow⟩ := Ky.row_entry HR0.out (by have := HN.out; omega)
      have HKx := Lib.hid (hrow m x hx).1
      have HCx := Lib.hid (hrow m x hx).2
      clear hx hc hrow hm1
      subst hA
      have k0 : (0 : Int) ≤ (m : Int) := by omega
      have k1 : (m : Int) < (n : Int) := by omega
      have k2 : (lo : Int) < (hi : Int) := by omega
      have k3 : ((n : Int)).toNat ≤ 1048576 := by have := HM.out; omega
      have e1 : IntKind.i64.wrap ((lo : Int) + (hi : Int)) = (lo : Int) + (hi : Int) := by rw [IntKind.wrap_i64]; have := HB.out; have := HM.out; omega
      have e2 : IntKind.u64.wrap ((lo : Int) + (hi : Int)) = (lo : Int) + (hi : Int) := by rw [IntKind.wrap_u64]; have := HB.out; have := HM.out; omega
      have hmE : ((lo : Int) + (hi : Int)) / 2 = (m : Int) := by omega
      by_cases hcl : c < 0
      · rw [if_pos hcl] at hg
        have HG := Lib.hid hg
        clear hg hm
        go_upto_region 5 with (fail)
        clear hmE e1 e2 k2
        refine Fl.start [([],[]),([],[]),([],[]),([1,2],[1,2]),([3],[3]),([],[]),([0,4,5],[0,4,5]),([6],[6])] [] 9 [.take 0, .take 1, .take 2, .take 3, .take 4, .take 5, .one 6, .take 7] [] (by kernel_rfl) (by kernel_rfl) (by decide) (by decide) (by kernel_rfl) (by kernel_rfl) Fl.mk0 HI.out ?_
        refine Fl.take (some 24) (v := .func (.func 75) #[] #[]) rfl rfl (Or.inl ⟨by rfl, fun _ _ => by rfl⟩) ?_
        simp only [Act.put, Fl.z1, Fl.z2, Fl.z3]
        refine Fl.take (some 25) (v := .slice (some ⟨b, o, none⟩) n c0) rfl rfl (Or.inl ⟨by rfl, fun _ _ => by rfl⟩) ?_
        simp only [Act.put, Fl.z1, Fl.z2, Fl.z3]
        refine Fl.take (some 26) (v := .int .i64 (m : Int)) rfl rfl (Or.inl ⟨by rfl, fun _ _ => by rfl⟩) ?_
        simp only [Act.put, Fl.z1, Fl.z2, Fl.z3]
        refine Fl.take (some 27) (v := .pointer (some ⟨b, o + m * 20, none⟩)) rfl rfl (Or.inl ⟨by rfl, fun _ _ => by first | rfl | (go_simp; done) | (go_simp; rfl) | (go_simp; omega)⟩) ?_
        simp only [Act.put, Fl.z1, Fl.z2, Fl.z3]
        refine Fl.take (some 28) (v := .agg (Ky.ec x)) rfl rfl (yieldsIf_load_mid (by rfl) 66 _ rfl b (o + m * 20) rfl (Ky.ec x).toList _ (fun W1 hW1 => Ky.range_below HCx.out hW1.bel) Try.underlying66 rfl (by rw [Array.length_toList]; exact Ky.hEk HKx.out)) ?_
        simp only [Act.put, Fl.z1, Fl.z2, Fl.z3]
        refine Fl.take (some 29) (v := .agg (Ky.bs a1)) rfl rfl (Fl.ld 0 rfl (by rfl) _ _ rfl rfl Ky.hK rfl (Ky.hKk HA.out)) ?_
        simp only [Act.put, Fl.z1, Fl.z2, Fl.z3]
        refine Fl.callV (some 30) Try.func75 (by kernel_rfl) rfl #[.agg (Ky.ec x), .agg (Ky.bs a1)] rfl rfl rfl rfl (by rfl) rfl (fun E W hE hi => ?_)
        refine (impl_Entry_16_byte.clos x a1 c W HKx.out HA.out HT.out).mono ?_
        rintro e W' ⟨rfl, hb⟩
        refine Fl.keep (v := .int .i64 c) hi hb ?_
        clear hi hb hE
        simp only [Act.put, Fl.z1, Fl.z2, Fl.z3]
        refine Fl.take (some 31) (v := .bool true) rfl rfl (Or.inl ⟨by rfl, fun _ _ => by first | rfl | (go_simp; done) | (go_simp; rfl) | (go_simp; omega)⟩) ?_
        simp only [Act.put, Fl.z1, Fl.z2, Fl.z3]
        refine Fl.fin0 ?_
        refine Fl.stopN (fun W hi => ?_)
        have HI2 := Lib.hid hi
        clear hi
        go_wp2
        go_roundg d
        case measure => have := HD.out; omega
        case rel => exact ⟨m + 1, hi, by go_num, rfl, Lib.hid (by have := HB.out; have := HMM.out; omega), Lib.hid ⟨d, Nat.le_refl _, HG.out⟩, HI2⟩
      · rw [if_neg hcl] at hg
        have HG := Lib.hid hg
        clear hg hm
        go_upto_region 5 with (fail)
        clear hmE e1 e2 k2
        refine Fl.start [([],[]),([],[]),([],[]),([1,2],[1,2]),([3],[3]),([],[]),([0,4,5],[0,4,5]),([6],[6])] [] 9 [.take 0, .take 1, .take 2, .take 3, .take 4, .take 5, .one 6, .take 7] [] (by kernel_rfl) (by kernel_rfl) (by decide) (by decide) (by kernel_rfl) (by kernel_rfl) Fl.mk0 HI.out ?_
        refine Fl.take (some 24) (v := .func (.func 75) #[] #[]) rfl rfl (Or.inl ⟨by rfl, fun _ _ => by rfl⟩) ?_
        simp only [Act.put, Fl.z1, Fl.z2, Fl.z3]
        refine Fl.take (some 25) (v := .slice (some ⟨b, o, none⟩) n c0) rfl rfl (Or.inl ⟨by rfl, fun _ _ => by rfl⟩) ?_
        simp only [Act.put, Fl.z1, Fl.z2, Fl.z3]
        refine Fl.take (some 26) (v := .int .i64 (m : Int)) rfl rfl (Or.inl ⟨by rfl, fun _ _ => by rfl⟩) ?_
        simp only [Act.put, Fl.z1, Fl.z2, Fl.z3]
        refine Fl.take (some 27) (v := .pointer (some ⟨b, o + m * 20, none⟩)) rfl rfl (Or.inl ⟨by rfl, fun _ _ => by first | rfl | (go_simp; done) | (go_simp; rfl) | (go_simp; omega)⟩) ?_
        simp only [Act.put, Fl.z1, Fl.z2, Fl.z3]
        refine Fl.take (some 28) (v := .agg (Ky.ec x)) rfl rfl (yieldsIf_load_mid (by rfl) 66 _ rfl b (o + m * 20) rfl (Ky.ec x).toList _ (fun W1 hW1 => Ky.range_below HCx.out hW1.bel) Try.underlying66 rfl (by rw [Array.length_toList]; exact Ky.hEk HKx.out)) ?_
        simp only [Act.put, Fl.z1, Fl.z2, Fl.z3]
        refine Fl.take (some 29) (v := .agg (Ky.bs a1)) rfl rfl (Fl.ld 0 rfl (by rfl) _ _ rfl rfl Ky.hK rfl (Ky.hKk HA.out)) ?_
        simp only [Act.put, Fl.z1, Fl.z2, Fl.z3]
        refine Fl.callV (some 30) Try.func75 (by kernel_rfl) rfl #[.agg (Ky.ec x), .agg (Ky.bs a1)] rfl rfl rfl rfl (by rfl) rfl (fun E W hE hi => ?_)
        refine (impl_Entry_16_byte.clos x a1 c W HKx.out HA.out HT.out).mono ?_
        rintro e W' ⟨rfl, hb⟩
        refine Fl.keep (v := .int .i64 c) hi hb ?_
        clear hi hb hE
        simp only [Act.put, Fl.z1, Fl.z2, Fl.z3]
        refine Fl.take (some 31) (v := .bool false) rfl rfl (Or.inl ⟨by rfl, fun _ _ => by first | rfl | (go_simp; done) | (go_simp; rfl) | (go_simp; omega)⟩) ?_
        simp only [Act.put, Fl.z1, Fl.z2, Fl.z3]
        refine Fl.fin0 ?_
        refine Fl.stopN (fun W hi => ?_)
        have HI2 := Lib.hid hi
        clear hi
        go_wp2
        go_roundg d
        case measure => have := HD.out; omega
        case rel => exact ⟨lo, m, rfl, rfl, Lib.hid (by have := HB.out; have := HMM.out; omega), Lib.hid ⟨d, Nat.le_refl _, HG.out⟩, HI2⟩
    · rw [if_neg hlt] at hg
      obtain rfl := Option.some.inj hg
      have k2 : ¬ (lo : Int) < (hi : Int) := by omega
      clear hg hlt
      have h := HH.out
      cases hx : l0[lo]? with
      | none =>
        rw [hx] at h
        obtain ⟨rfl, rfl⟩ := Prod.mk.inj (Option.some.inj h)
        have hln : ¬ (lo : Int) < (n : Int) := by have := List.getElem?_eq_none_iff.1 hx; have := HN.out; omega
        clear h hx HH
        go_upto_region 8 with (fail)
        refine Fl.start [([],[]),([],[]),([],[]),([1,2],[1,2]),([3],[3]),([4],[4]),([4],[4]),([4],[4]),([6,7,4],[4,6,7]),([8,4],[4,8]),([4],[4]),([5,9,10,4,4],[4,5,9,10]),([11,4],[4,11]),([4,12],[4,12]),([0,11,0],[0]),([13,14,0,1,2,3,4,5,6,7,8,9,10,11,12,13,14],[13])] [] 17 [.take 0, .take 1, .take 2, .take 3, .take 4, .take 5, .take 6, .take 7, .take 8, .take 9, .take 10, .take 11, .take 12, .take 13, .take 14, .take 15] [] (by kernel_rfl) (by kernel_rfl) (by decide) (by decide) (by kernel_rfl) (by kernel_rfl) Fl.mk0 HI.out ?_
        refine Fl.take (some 35) (v := .int .i64 (lo : Int)) rfl rfl (Or.inl ⟨by rfl, fun _ _ => by rfl⟩) ?_
        simp only [Act.put, Fl.z1, Fl.z2, Fl.z3]
        refine Fl.take (some 36) (v := .int .i64 (lo : Int)) rfl rfl (Or.inl ⟨by rfl, fun _ _ => by rfl⟩) ?_
        simp only [Act.put, Fl.z1, Fl.z2, Fl.z3]
        refine Fl.take (some 37) (v := .int .i64 (n : Int)) rfl rfl (Or.inl ⟨by rfl, fun _ _ => by rfl⟩) ?_
        simp only [Act.put, Fl.z1, Fl.z2, Fl.z3]
        refine Fl.take (some 38) (v := .bool false) rfl rfl (Or.inl ⟨by rfl, fun _ _ => by first | rfl | (go_simp; done) | (go_simp; rfl) | (go_simp; omega)⟩) ?_
        simp only [Act.put, Fl.z1, Fl.z2, Fl.z3]
        refine Fl.take (some 39) (v := .bool false) rfl rfl (Or.inl ⟨by rfl, fun _ _ => by rfl⟩) ?_
        simp only [Act.put, Fl.z1, Fl.z2, Fl.z3]
        refine Fl.take (some 40) (v := undef) rfl rfl (Or.inr ⟨by rfl, rfl⟩) ?_
        simp only [Act.put, Fl.z1, Fl.z2, Fl.z3]
        refine Fl.take (some 41) (v := undef) rfl rfl (Or.inr ⟨by rfl, rfl⟩) ?_
        simp only [Act.put, Fl.z1, Fl.z2, Fl.z3]
        refine Fl.take (some 42) (v := undef) rfl rfl (Or.inr ⟨by rfl, rfl⟩) ?_
        simp only [Act.put, Fl.z1, Fl.z2, Fl.z3]
        refine Fl.take (some 43) (v := undef) rfl rfl (Or.inr ⟨by rfl, rfl⟩) ?_
        simp only [Act.put, Fl.z1, Fl.z2, Fl.z3]
        refine Fl.take (some 44) (v := undef) rfl rfl (Or.inr ⟨by rfl, rfl⟩) ?_
        simp only [Act.put, Fl.z1, Fl.z2, Fl.z3]
        refine Fl.take (some 45) (v := undef) rfl rfl (Or.inr ⟨by rfl, rfl⟩) ?_
        simp only [Act.put, Fl.z1, Fl.z2, Fl.z3]
        refine Fl.take (some 46) (v := undef) rfl rfl (Or.inr ⟨by rfl, rfl⟩) ?_
        simp only [Act.put, Fl.z1, Fl.z2, Fl.z3]
        refine Fl.take (some 47) (v := undef) rfl rfl (Or.inr ⟨by rfl, rfl⟩) ?_
        simp only [Act.put, Fl.z1, Fl.z2, Fl.z3]
        refine Fl.take (some 48) (v := .bool false) rfl rfl (Or.inl ⟨by rfl, fun _ _ => by rfl⟩) ?_
        simp only [Act.put, Fl.z1, Fl.z2, Fl.z3]
        refine Fl.take (some 6) (v := .int .i64 (lo : Int)) rfl rfl (Or.inl ⟨by rfl, fun _ _ => by rfl⟩) ?_
        simp only [Act.put, Fl.z1, Fl.z2, Fl.z3]
        refine Fl.take (some 7) (v := .bool false) rfl rfl (Or.inl ⟨by rfl, fun _ _ => by rfl⟩) ?_
        simp only [Act.put, Fl.z1, Fl.z2, Fl.z3]
        refine Fl.fin0 ?_
        refine Fl.stopN (fun W hi => ?_)
        have HI2 := Lib.hid hi
        clear hi
        go_wp2
        go_ret2
        exact ⟨by first | rfl | rw [hd], HI2.out.bel⟩
      | some x =>
        rw [hx] at h
        obtain ⟨c, hc, h⟩ := Option.bind_eq_some_iff.mp h
        obtain ⟨rfl, rfl⟩ := Prod.mk.inj (Option.some.inj h)
        have hln : lo < n := by have := (List.getElem?_eq_some_iff.1 hx).1; have := HN.out; omega
        have HT := Lib.hid hc
        obtain ⟨b, o, hA, hrow⟩ := Ky.row_entry HR0.out (by have := HN.out; omega)
        have HKx := Lib.hid (hrow lo x hx).1
        have HCx := Lib.hid (hrow lo x hx).2
        clear hx hc hrow h HH
        subst hA
        have k0 : (0 : Int) ≤ (lo : Int) := by omega
        have k1 : (lo : Int) < (n : Int) := by omega
        by_cases hc0 : c = 0
        · have hd : decide (c = 0) = true := decide_eq_true hc0
          subst hc0
          go_upto_region 8 with (fail)
          refine Fl.start [([],[]),([],[]),([],[]),([1,2],[1,2]),([3],[3]),([4],[4]),([4],[4]),([4],[4]),([6,7,4],[4,6,7]),([8,4],[4,8]),([4],[4]),([5,9,10,4,4],[4,5,9,10]),([11,4],[4,11]),([4,12],[4,12]),([0,11,0],[0]),([13,14,0,1,2,3,4,5,6,7,8,9,10,11,12,13,14],[13])] [] 17 [.take 0, .take 1, .take 2, .take 3, .take 4, .take 5, .take 6, .take 7, .take 8, .take 9, .take 10, .one 11, .take 12, .take 13, .take 14, .take 15] [] (by kernel_rfl) (by kernel_rfl) (by decide) (by decide) (by kernel_rfl) (by kernel_rfl) Fl.mk0 HI.out ?_
          refine Fl.take (some 35) (v := .int .i64 (lo : Int)) rfl rfl (Or.inl ⟨by rfl, fun _ _ => by rfl⟩) ?_
          simp only [Act.put, Fl.z1, Fl.z2, Fl.z3]
          refine Fl.take (some 36) (v := .int .i64 (lo : Int)) rfl rfl (Or.inl ⟨by rfl, fun _ _ => by rfl⟩) ?_
          simp only [Act.put, Fl.z1, Fl.z2, Fl.z3]
          refine Fl.take (some 37) (v := .int .i64 (n : Int)) rfl rfl (Or.inl ⟨by rfl, fun _ _ => by rfl⟩) ?_
          simp only [Act.put, Fl.z1, Fl.z2, Fl.z3]
          refine Fl.take (some 38) (v := .bool true) rfl rfl (Or.inl ⟨by rfl, fun _ _ => by first | rfl | (go_simp; done) | (go_simp; rfl) | (go_simp; omega)⟩) ?_
          simp only [Act.put, Fl.z1, Fl.z2, Fl.z3]
          refine Fl.take (some 39) (v := .bool true) rfl rfl (Or.inl ⟨by rfl, fun _ _ => by rfl⟩) ?_
          simp only [Act.put, Fl.z1, Fl.z2, Fl.z3]
          refine Fl.take (some 40) (v := .func (.func 75) #[] #[]) rfl rfl (Or.inl ⟨by rfl, fun _ _ => by rfl⟩) ?_
          simp only [Act.put, Fl.z1, Fl.z2, Fl.z3]
          refine Fl.take (some 41) (v := .slice (some ⟨b, o, none⟩) n c0) rfl rfl (Or.inl ⟨by rfl, fun _ _ => by rfl⟩) ?_
          simp only [Act.put, Fl.z1, Fl.z2, Fl.z3]
          refine Fl.take (some 42) (v := .int .i64 (lo : Int)) rfl rfl (Or.inl ⟨by rfl, fun _ _ => by rfl⟩) ?_
          simp only [Act.put, Fl.z1, Fl.z2, Fl.z3]
          refine Fl.take (some 43) (v := .pointer (some ⟨b, o + lo * 20, none⟩)) rfl rfl (Or.inl ⟨by rfl, fun _ _ => by first | rfl | (go_simp; done) | (go_simp; rfl) | (go_simp; omega)⟩) ?_
          simp only [Act.put, Fl.z1, Fl.z2, Fl.z3]
          refine Fl.take (some 44) (v := .agg (Ky.ec x)) rfl rfl (yieldsIf_load_mid (by rfl) 66 _ rfl b (o + lo * 20) rfl (Ky.ec x).toList _ (fun W1 hW1 => Ky.range_below HCx.out hW1.bel) Try.underlying66 rfl (by rw [Array.length_toList]; exact Ky.hEk HKx.out)) ?_
          simp only [Act.put, Fl.z1, Fl.z2, Fl.z3]
          refine Fl.take (some 45) (v := .agg (Ky.bs a1)) rfl rfl (Fl.ld 0 rfl (by rfl) _ _ rfl rfl Ky.hK rfl (Ky.hKk HA.out)) ?_
          simp only [Act.put, Fl.z1, Fl.z2, Fl.z3]
          refine Fl.callV (some 46) Try.func75 (by kernel_rfl) rfl #[.agg (Ky.ec x), .agg (Ky.bs a1)] rfl rfl rfl rfl (by rfl) rfl (fun E W hE hi => ?_)
          refine (impl_Entry_16_byte.clos x a1 0 W HKx.out HA.out HT.out).mono ?_
          rintro e W' ⟨rfl, hb⟩
          refine Fl.keep (v := .int .i64 0) hi hb ?_
          clear hi hb hE
          simp only [Act.put, Fl.z1, Fl.z2, Fl.z3]
          refine Fl.take (some 47) (v := .bool true) rfl rfl (Or.inl ⟨by rfl, fun _ _ => by first | rfl | (go_simp; done) | (go_simp; rfl) | (go_simp; omega)⟩) ?_
          simp only [Act.put, Fl.z1, Fl.z2, Fl.z3]
          refine Fl.take (some 48) (v := .bool true) rfl rfl (Or.inl ⟨by rfl, fun _ _ => by rfl⟩) ?_
          simp only [Act.put, Fl.z1, Fl.z2, Fl.z3]
          refine Fl.take (some 6) (v := .int .i64 (lo : Int)) rfl rfl (Or.inl ⟨by rfl, fun _ _ => by rfl⟩) ?_
          simp only [Act.put, Fl.z1, Fl.z2, Fl.z3]
          refine Fl.take (some 7) (v := .bool true) rfl rfl (Or.inl ⟨by rfl, fun _ _ => by rfl⟩) ?_
          simp only [Act.put, Fl.z1, Fl.z2, Fl.z3]
          refine Fl.fin0 ?_
          refine Fl.stopN (fun W hi => ?_)
          have HI2 := Lib.hid hi
          clear hi
          go_wp2
          go_ret2
          exact ⟨by first | rfl | rw [hd], HI2.out.bel⟩
        · have hd : decide (c = 0) = false := decide_eq_false hc0
          go_upto_region 8 with (fail)
          refine Fl.start [([],[]),([],[]),([],[]),([1,2],[1,2]),([3],[3]),([4],[4]),([4],[4]),([4],[4]),([6,7,4],[4,6,7]),([8,4],[4,8]),([4],[4]),([5,9,10,4,4],[4,5,9,10]),([11,4],[4,11]),([4,12],[4,12]),([0,11,0],[0]),([13,14,0,1,2,3,4,5,6,7,8,9,10,11,12,13,14],[13])] [] 17 [.take 0, .take 1, .take 2, .take 3, .take 4, .take 5, .take 6, .take 7, .take 8, .take 9, .take 10, .one 11, .take 12, .take 13, .take 14, .take 15] [] (by kernel_rfl) (by kernel_rfl) (by decide) (by decide) (by kernel_rfl) (by kernel_rfl) Fl.mk0 HI.out ?_
          refine Fl.take (some 35) (v := .int .i64 (lo : Int)) rfl rfl (Or.inl ⟨by rfl, fun _ _ => by rfl⟩) ?_
          simp only [Act.put, Fl.z1, Fl.z2, Fl.z3]
          refine Fl.take (some 36) (v := .int .i64 (lo : Int)) rfl rfl (Or.inl ⟨by rfl, fun _ _ => by rfl⟩) ?_
          simp only [Act.put, Fl.z1, Fl.z2, Fl.z3]
          refine Fl.take (some 37) (v := .int .i64 (n : Int)) rfl rfl (Or.inl ⟨by rfl, fun _ _ => by rfl⟩) ?_
          simp only [Act.put, Fl.z1, Fl.z2, Fl.z3]
          refine Fl.take (some 38) (v := .bool true) rfl rfl (Or.inl ⟨by rfl, fun _ _ => by first | rfl | (go_simp; done) | (go_simp; rfl) | (go_simp; omega)⟩) ?_
          simp only [Act.put, Fl.z1, Fl.z2, Fl.z3]
          refine Fl.take (some 39) (v := .bool true) rfl rfl (Or.inl ⟨by rfl, fun _ _ => by rfl⟩) ?_
          simp only [Act.put, Fl.z1, Fl.z2, Fl.z3]
          refine Fl.take (some 40) (v := .func (.func 75) #[] #[]) rfl rfl (Or.inl ⟨by rfl, fun _ _ => by rfl⟩) ?_
          simp only [Act.put, Fl.z1, Fl.z2, Fl.z3]
          refine Fl.take (some 41) (v := .slice (some ⟨b, o, none⟩) n c0) rfl rfl (Or.inl ⟨by rfl, fun _ _ => by rfl⟩) ?_
          simp only [Act.put, Fl.z1, Fl.z2, Fl.z3]
          refine Fl.take (some 42) (v := .int .i64 (lo : Int)) rfl rfl (Or.inl ⟨by rfl, fun _ _ => by rfl⟩) ?_
          simp only [Act.put, Fl.z1, Fl.z2, Fl.z3]
          refine Fl.take (some 43) (v := .pointer (some ⟨b, o + lo * 20, none⟩)) rfl rfl (Or.inl ⟨by rfl, fun _ _ => by first | rfl | (go_simp; done) | (go_simp; rfl) | (go_simp; omega)⟩) ?_
          simp only [Act.put, Fl.z1, Fl.z2, Fl.z3]
          refine Fl.take (some 44) (v := .agg (Ky.ec x)) rfl rfl (yieldsIf_load_mid (by rfl) 66 _ rfl b (o + lo * 20) rfl (Ky.ec x).toList _ (fun W1 hW1 => Ky.range_below HCx.out hW1.bel) Try.underlying66 rfl (by rw [Array.length_toList]; exact Ky.hEk HKx.out)) ?_
          simp only [Act.put, Fl.z1, Fl.z2, Fl.z3]
          refine Fl.take (some 45) (v := .agg (Ky.bs a1)) rfl rfl (Fl.ld 0 rfl (by rfl) _ _ rfl rfl Ky.hK rfl (Ky.hKk HA.out)) ?_
          simp only [Act.put, Fl.z1, Fl.z2, Fl.z3]
          refine Fl.callV (some 46) Try.func75 (by kernel_rfl) rfl #[.agg (Ky.ec x), .agg (Ky.bs a1)] rfl rfl rfl rfl (by rfl) rfl (fun E W hE hi => ?_)
          refine (impl_Entry_16_byte.clos x a1 c W HKx.out HA.out HT.out).mono ?_
          rintro e W' ⟨rfl, hb⟩
          refine Fl.keep (v := .int .i64 c) hi hb ?_
          clear hi hb hE
          simp only [Act.put, Fl.z1, Fl.z2, Fl.z3]
          refine Fl.take (some 47) (v := .bool false) rfl rfl (Or.inl ⟨by rfl, fun _ _ => by first | rfl | (go_simp; done) | (go_simp; rfl) | (go_simp; omega)⟩) ?_
          simp only [Act.put, Fl.z1, Fl.z2, Fl.z3]
          refine Fl.take (some 48) (v := .bool false) rfl rfl (Or.inl ⟨by rfl, fun _ _ => by rfl⟩) ?_
          simp only [Act.put, Fl.z1, Fl.z2, Fl.z3]
          refine Fl.take (some 6) (v := .int .i64 (lo : Int)) rfl rfl (Or.inl ⟨by rfl, fun _ _ => by rfl⟩) ?_
          simp only [Act.put, Fl.z1, Fl.z2, Fl.z3]
          refine Fl.take (some 7) (v := .bool false) rfl rfl (Or.inl ⟨by rfl, fun _ _ => by rfl⟩) ?_
          simp only [Act.put, Fl.z1, Fl.z2, Fl.z3]
          refine Fl.fin0 ?_
          refine Fl.stopN (fun W hi => ?_)
          have HI2 := Lib.hid hi
          clear hi
          go_wp2
          go_ret2
          exact ⟨by first | rfl | rw [hd], HI2.out.bel⟩

/-! ### impl_entryAt: function 46 (by hand) -/
def impl_entryAt.f (l0 : List Ky.En) (a1 : List Int) : Option (Int × Bool) := impl_Entry_16_byte.f l0 a1
set_option maxHeartbeats 4000000 in
set_option maxRecDepth 100000 in
theorem impl_entryAt.calls (A0 : Option Addr) (c0 : Nat) (l0 : List Ky.En) (a1 : List Int) (r1 : Int) (r2 : Bool) (w : World) (hr0 : Kd.C Ky.ke w A0 l0.length l0) (hc0 : l0.length ≤ c0) (hk1 : Ky.Key a1) (h : impl_entryAt.f l0 a1 = some (r1, r2)) :
    Calls Try.prog 46 #[.slice A0 l0.length c0, .agg (Ky.bs a1)] w fun e w' => e = .returned (.tuple #[.int .i64 r1, .bool r2]) ∧ Below w.heap.size w w' := by
  have HR0 := Lib.hid hr0
  have HC0 := Lib.hid hc0
  have HA := Lib.hid hk1
  have HH := Lib.hid (show impl_Entry_16_byte.f l0 a1 = some (r1, r2) from h)
  clear hr0 hc0 hk1 h
  obtain ⟨W0, hW⟩ : ∃ W, W = w.alloc (.cells (Ky.bs a1) 26) := ⟨_, rfl⟩
  have HI : Hid (Lv.Inv w W0 [Lv.boxF (w.heap.size) (Ky.bs a1) 26]) := by
    subst hW
    have := (Lv.Inv.refl w).box (Ky.bs a1) 26
    exact Lib.hid (by simpa using this)
  go_enter Try.func46, Try.ntmps46
  go_upto_region 1 with (fail)
  rw [← hW]
  clear hW
  refine Fl.startL [.take 0, .take 1, .one 2, .take 3, .take 4, .take 5, .take 6] (by decide) HI.out ?_
  refine Fl.take (some 6) (v := .slice A0 l0.length c0) rfl rfl (Or.inl ⟨by rfl, fun _ _ => by rfl⟩) ?_
  simp only [Act.put, Fl.z1, Fl.z2, Fl.z3]
  refine Fl.take (some 7) (v := .agg (Ky.bs a1)) rfl rfl (Fl.ld 0 rfl (by rfl) _ _ rfl rfl Ky.hK rfl (Ky.hKk HA.out)) ?_
  simp only [Act.put, Fl.z1, Fl.z2, Fl.z3]
  refine Fl.call (some 8) Try.func74 (by kernel_rfl) rfl #[.slice A0 l0.length c0, .agg (Ky.bs a1), .func (.func 75) #[] #[]] rfl rfl rfl (by rfl) rfl (fun E W hE hi => ?_)
  refine (impl_Entry_16_byte.calls _ _ l0 a1 r1 r2 W (Kd.C_below HR0.out hi.bel) HC0.out HA.out HH.out).mono ?_
  rintro e W' ⟨rfl, hb⟩
  refine Fl.keep (v := .tuple #[.int .i64 r1, .bool r2]) hi hb ?_
  clear hi hb hE
  simp only [Act.put, Fl.z1, Fl.z2, Fl.z3]
  refine Fl.take (some 9) (v := .int .i64 r1) rfl rfl (Or.inl ⟨by rfl, fun _ _ => by rfl⟩) ?_
  simp only [Act.put, Fl.z1, Fl.z2, Fl.z3]
  refine Fl.take (some 10) (v := .bool r2) rfl rfl (Or.inl ⟨by rfl, fun _ _ => by rfl⟩) ?_
  simp only [Act.put, Fl.z1, Fl.z2, Fl.z3]
  refine Fl.take (some 4) (v := .int .i64 r1) rfl rfl (Or.inl ⟨by rfl, fun _ _ => by rfl⟩) ?_
  simp only [Act.put, Fl.z1, Fl.z2, Fl.z3]
  refine Fl.take (some 5) (v := .bool r2) rfl rfl (Or.inl ⟨by rfl, fun _ _ => by rfl⟩) ?_
  simp only [Act.put, Fl.z1, Fl.z2, Fl.z3]
  refine Fl.stop (fun W hi => ?_)
  have HI2 := Lib.hid hi
  clear hi
  go_wp2
  go_ret2
  exact ⟨rfl, HI2.out.bel⟩

/-! ### impl_DropEntry: function 19 (by hand) -/
set_option maxHeartbeats 4000000 in
set_option maxRecDepth 100000 in
theorem impl_DropEntry.clone (A0 : Option Addr) (c0 : Nat) (l0 : List Ky.En) (w : World) (hr0 : Kd.C Ky.ke w A0 l0.length l0) (h0 : 0 < l0.length) (hle : l0.length ≤ 1048576) :
    Calls Try.prog 48 #[.slice A0 l0.length c0] w fun e w' => ∃ v : Value, e = .returned v ∧ Kd.R Ky.ke 66 w' w.heap.size (fun _ => True) v l0 ∧ Below w.heap.size w w' := by
  have HR0 := Lib.hid hr0
  obtain ⟨b, o, hA, _⟩ := Ky.row_entry hr0 h0
  subst hA
  obtain ⟨n, hn⟩ : ∃ n, n = l0.length := ⟨_, rfl⟩
  rw [← hn] at hle HR0 ⊢
  have HM := Lib.hid hle
  have HI : Hid (Lv.Inv w w []) := Lib.hid (Lv.Inv.refl w)
  clear hr0 h0 hn hle
  go_enter Try.func48, Try.ntmps48
  have hnil := Ky.eqNil ⟨b, o, none⟩ n c0
  go_upto_region 3 with (fail)
  clear hnil
  refine Fl.startL [.one 0, .take 1, .one 2, .take 3] (by decide) HI.out ?_
  refine Fl.lit0 Ky.ke (e := 66) (N := 5) rfl rfl (by rfl) (fun W => by first | (go_simp; done) | (go_simp; rfl)) (fun v0 => ?_)
  simp only [Act.put, Fl.z1, Fl.z2, Fl.z3]
  refine Fl.take (some 6) (v := .slice (some ⟨b, o, none⟩) n c0) rfl rfl (Or.inl ⟨by rfl, fun _ _ => by rfl⟩) ?_
  simp only [Act.put, Fl.z1, Fl.z2, Fl.z3]
  refine Fl.appRows (N := 7) (bytes := 48) (ys := l0) Ky.ke_KM rfl rfl (by rfl) rfl Try.underlying29 Ky.hEinfo rfl (by decide) (by decide) rfl rfl (by have := HM.out; simp; omega) (fun W hb => Kd.C_below HR0.out hb) (fun v1 => ?_)
  simp only [Act.put, Fl.z1, Fl.z2, Fl.z3]
  refine Fl.take (some 2) (v := v1) rfl rfl (Or.inl ⟨by rfl, fun _ _ => by rfl⟩) ?_
  simp only [Act.put, Fl.z1, Fl.z2, Fl.z3]
  refine Fl.stop (fun W hi => ?_)
  replace HI := Lib.hid hi
  clear hi
  go_wp2
  go_ret
  obtain ⟨S, _, hR⟩ := HI.out.get 0 rfl
  exact ⟨_, rfl, Kd.R_mono hR (fun _ _ => trivial), HI.out.bel⟩
set_option maxHeartbeats 4000000 in
set_option maxRecDepth 100000 in
theorem impl_DropEntry.delete (w0 w : World) (Qs : List Lv.Fact) (g n cap m : Nat) (cs : Array Value) (xs : List Ky.En) (hI : Lv.Inv w0 w (Lv.boxF g cs 66 :: Qs)) (hl : xs.length = n) (hn : n ≤ cap) (hmx : cap ≤ maxLen) (hs : cs.size = cap * 20) (hX : Ky.Holds xs cs) (hm : m < n) (hle : n ≤ 1048576) (q : Int) (hq : q = ((m + 1 : Nat) : Int)) :
    Calls Try.prog 47 #[.slice (some ⟨g, 0, none⟩) n cap, .int .i64 (m : Int), .int .i64 q] w fun e w' => e = .returned (.slice (some ⟨g, 0, none⟩) (n - 1) cap) ∧ ∃ c2, c2.size = cap * 20 ∧ Ky.Holds (xs.take m ++ xs.drop (m + 1)) c2 ∧ Lv.Inv w0 w' (Lv.boxF g c2 66 :: Qs) := by
  subst hq
  obtain ⟨n1, rfl⟩ : ∃ n1, n = n1 + 1 := ⟨n - 1, by omega⟩
  obtain ⟨news, hnews⟩ : ∃ news, news = (cs.toList.drop ((m + 1) * 20)).take ((n1 + 1 - (m + 1)) * 20) := ⟨_, rfl⟩
  have hcl : cs.toList.length = cap * 20 := by rw [← hs]; exact Array.length_toList
  have hnl : news.length = (n1 + 1 - (m + 1)) * 20 := by rw [hnews, List.length_take, List.length_drop, hcl]; omega
  obtain ⟨c1, hc1, hc1k⟩ := Ky.put_cells cs (m * 20) news (by omega)
  obtain ⟨c2, hc2, hc2k⟩ := Ky.put_cells c1 (n1 * 20) (Ky.ec Ky.En0).toList (by rw [hc1, hs]; show n1 * 20 + (Ky.ec Ky.En0).toList.length ≤ _; rw [Array.length_toList, Ky.ec_size Ky.key_0]; omega)
  have hz : (Ky.ec Ky.En0).toList.length = (Ky.ec Ky.En0).size := Array.length_toList
  have hz2 : (Ky.ec Ky.En0).size = 20 := Ky.ec_size Ky.key_0
  obtain ⟨src, hsrc⟩ : ∃ src : Nat, src = if cap = m + 1 then 0 else (m + 1) * 20 := ⟨_, rfl⟩
  have h31 : ∀ W, (Instr.slice 29 (.slice (some ⟨g, 0, none⟩) (n1 + 1) cap) (some (.int .i64 ((m + 1 : Nat) : Int))) none none).run Try.prog W = .ok (.slice (some ⟨g, src, none⟩) (n1 + 1 - (m + 1)) (cap - (m + 1))) W := fun W => by
    rw [Ky.cutFrom (some ⟨g, 0, none⟩) (n1 + 1) cap (m + 1) _ rfl (by omega) W, hsrc]
    by_cases hc : cap = m + 1
    · rw [if_pos hc, if_pos hc]
    · rw [if_neg hc, if_neg hc, Option.map_some, Go.Addr.add_mid, Nat.zero_add]
  have h32 : ∀ W, (Instr.slice 29 (.slice (some ⟨g, 0, none⟩) n1 cap) (some (.int .i64 (n1 : Int))) (some (.int .i64 ((n1 + 1 : Nat) : Int))) none).run Try.prog W = .ok (.slice (some ⟨g, n1 * 20, none⟩) 1 (cap - n1)) W := fun W => by
    rw [Ky.cutMid (some ⟨g, 0, none⟩) n1 cap n1 (n1 + 1) (by omega) (by omega) (by omega) W, if_neg (by omega), Option.map_some, Go.Addr.add_mid, Nat.zero_add, Nat.add_sub_cancel_left]
  have HS1 := Lib.hid (fun W => Ky.cutTo (some ⟨g, 0, none⟩) (n1 + 1) cap m (by omega) hn W)
  have HS2 := Lib.hid h31
  have HS3 := Lib.hid h32
  have HNL := Lib.hid hnl
  have HSRC : Hid (∀ q u, news[q]? = some u → cs[src + q]? = some u) := Lib.hid fun q u hq => by
    have hql : q < news.length := (List.getElem?_eq_some_iff.1 hq).1
    rw [hnews, List.getElem?_take, if_pos (by omega), List.getElem?_drop, Array.getElem?_toList] at hq
    rw [hsrc, if_neg (by omega)]
    exact hq
  have HONE : Hid (∀ u ∈ news, u.oneCell' = true) := Lib.hid fun u hu => by
    obtain ⟨q, hql, he⟩ := List.mem_iff_getElem.1 hu
    have hq2 : news[q]? = some u := by rw [List.getElem?_eq_getElem hql, he]
    rw [hnews, List.getElem?_take, if_pos (by omega), List.getElem?_drop, Array.getElem?_toList] at hq2
    exact Ky.holds_one hX (by omega) hq2
  have HX2 := Lib.hid (Ky.holds_cut (n1 := n1) (z := Ky.ec Ky.En0) hX hl hn hs hm rfl hnews hc1 hc1k (fun k hk => by rw [hc2k k hk, hz, Array.getElem?_toList]))
  have HC1 := Lib.hid (And.intro hc1 hc1k)
  have HC2 := Lib.hid (And.intro hc2 hc2k)
  have HSZ := Lib.hid hs
  have HNC := Lib.hid hn
  have HMN := Lib.hid hm
  have HZ := Lib.hid (And.intro hz hz2)
  have HLE := Lib.hid hle
  have HI := Lib.hid hI
  have k0 : (0 : Int) ≤ (m : Int) := by omega
  have k1 : (m : Int) ≤ ((m + 1 : Nat) : Int) := by omega
  have k2 : ((m + 1 : Nat) : Int) ≤ ((n1 + 1 : Nat) : Int) := by omega
  have k3 : ((n1 + 1 : Nat) : Int) ≤ (cap : Int) := by omega
  have k4 : decide ((m : Int) = ((m + 1 : Nat) : Int)) = false := decide_eq_false (by omega)
  clear hI hl hmx hs hX hle hnews hcl hnl hc1 hc1k hc2 hc2k hz hz2 hsrc h31 h32 hn hm
  go_enter Try.func47, Try.ntmps47
  go_upto_region 5 with (fail)
  refine Fl.startF (F := [_]) [([],[]),([],[]),([0,1],[0,1]),([],[]),([],[]),([3,4],[3,4]),([2,5],[2,5]),([6,6,0,1,2,3,4,5,6],[0,3,6])] [] 9 [.take 0, .take 1, .take 2, .take 3, .take 4, .take 5, .one 6, .take 7] [] (by kernel_rfl) (by kernel_rfl) (by decide) (by decide) (by kernel_rfl) (by kernel_rfl) Fl.mk0 HI.out ?_
  refine Fl.take (some 20) (v := .slice (some ⟨g, 0, none⟩) (n1 + 1) cap) rfl rfl (Or.inl ⟨by rfl, fun _ _ => by rfl⟩) ?_
  simp only [Act.put, Fl.z1, Fl.z2, Fl.z3]
  refine Fl.take (some 21) (v := .int .i64 (m : Int)) rfl rfl (Or.inl ⟨by rfl, fun _ _ => by rfl⟩) ?_
  simp only [Act.put, Fl.z1, Fl.z2, Fl.z3]
  refine Fl.take (some 22) (v := .slice (some ⟨g, 0, none⟩) m cap) rfl rfl (Fl.yields_cut (by rfl) _ _ _ _ _ rfl Try.underlying29 (by exact HS1.out)) ?_
  simp only [Act.put, Fl.z1, Fl.z2, Fl.z3]
  refine Fl.take (some 23) (v := .slice (some ⟨g, 0, none⟩) (n1 + 1) cap) rfl rfl (Or.inl ⟨by rfl, fun _ _ => by rfl⟩) ?_
  simp only [Act.put, Fl.z1, Fl.z2, Fl.z3]
  refine Fl.take (some 24) (v := .int .i64 ((m + 1 : Nat) : Int)) rfl rfl (Or.inl ⟨by rfl, fun _ _ => by rfl⟩) ?_
  simp only [Act.put, Fl.z1, Fl.z2, Fl.z3]
  refine Fl.take (some 25) (v := .slice (some ⟨g, src, none⟩) (n1 + 1 - (m + 1)) (cap - (m + 1))) rfl rfl (Fl.yields_cut (by rfl) _ _ _ _ _ rfl Try.underlying29 (by exact HS2.out)) ?_
  simp only [Act.put, Fl.z1, Fl.z2, Fl.z3]
  refine Fl.appRoom (N := 26) (cs' := c1) 0 rfl rfl rfl rfl (by rfl) rfl Try.underlying29 Ky.hEs rfl src (n1 + 1 - (m + 1)) (cap - (m + 1)) rfl news HNL.out HSRC.out HONE.out (by have := HNC.out; have := HMN.out; omega) (by have := HNC.out; have := HMN.out; have := HNL.out; have := HSZ.out; show m * 20 + _ ≤ _; omega) HC1.out.1 HC1.out.2 ?_
  rw [show m + (n1 + 1 - (m + 1)) = n1 by have := HMN.out; omega]
  simp only [Act.put, Fl.z1, Fl.z2, Fl.z3]
  refine Fl.take (some 0) (v := .slice (some ⟨g, 0, none⟩) n1 cap) rfl rfl (Or.inl ⟨by rfl, fun _ _ => by rfl⟩) ?_
  simp only [Act.put, Fl.z1, Fl.z2, Fl.z3]
  refine Fl.fin0 ?_
  refine Fl.stopN (fun W hi => ?_)
  replace HI := Lib.hid hi
  clear hi
  go_upto_region 6 with (fail)
  refine Fl.startW [.take 0, .take 1, .take 2, .take 3, .take 4, .one 5] (by decide) HI.out ?_
  refine Fl.take (some 27) (v := .slice (some ⟨g, 0, none⟩) n1 cap) rfl rfl (Or.inl ⟨by rfl, fun _ _ => by rfl⟩) ?_
  simp only [Act.put, Fl.z1, Fl.z2, Fl.z3]
  refine Fl.take (some 28) (v := .slice (some ⟨g, 0, none⟩) n1 cap) rfl rfl (Or.inl ⟨by rfl, fun _ _ => by rfl⟩) ?_
  simp only [Act.put, Fl.z1, Fl.z2, Fl.z3]
  refine Fl.take (some 29) (v := .int .i64 (n1 : Int)) rfl rfl (Or.inl ⟨by rfl, fun _ _ => by first | rfl | (go_simp; done) | (go_simp; rfl) | (go_simp; omega)⟩) ?_
  simp only [Act.put, Fl.z1, Fl.z2, Fl.z3]
  refine Fl.take (some 30) (v := .int .i64 ((n1 + 1 : Nat) : Int)) rfl rfl (Or.inl ⟨by rfl, fun _ _ => by rfl⟩) ?_
  simp only [Act.put, Fl.z1, Fl.z2, Fl.z3]
  refine Fl.take (some 31) (v := .slice (some ⟨g, n1 * 20, none⟩) 1 (cap - n1)) rfl rfl (Fl.yields_cut (by rfl) _ _ _ _ _ rfl Try.underlying29 (by exact HS3.out)) ?_
  simp only [Act.put, Fl.z1, Fl.z2, Fl.z3]
  refine Fl.clear1 (z := Ky.ec Ky.En0) (cs' := c2) 0 rfl rfl rfl rfl (by rfl) rfl Try.underlying29 Ky.hEz (Ky.ec_one _) rfl (by have := HZ.out.2; have := HC1.out.1; have := HSZ.out; have := HNC.out; omega) HC2.out.1 (fun k hk => by rw [HC2.out.2 k hk, HZ.out.1, Array.getElem?_toList]) ?_
  refine Fl.stopW (fun W hi => ?_)
  replace HI := Lib.hid hi
  clear hi
  go_wp2
  go_ret
  exact ⟨by rfl, c2, by rw [HC2.out.1, HC1.out.1, HSZ.out], HX2.out, HI.out⟩
def impl_DropEntry.f (k : Nat) (l0_0 : List (List Int)) (l1 : List Ky.En) (a2 : List Int) : Option (List Ky.En × Bool) := if l1.length ≤ 1048576 then (impl_isTable.f k l0_0 l1).bind fun t => if t = true then (impl_entryAt.f l1 a2).bind fun r => if r.2 = true then (if 0 ≤ r.1 ∧ r.1 < (l1.length : Int) then some (l1.take r.1.toNat ++ l1.drop (r.1.toNat + 1), true) else none) else some ([], false) else some ([], false) else none
theorem impl_DropEntry.mono : ∀ a0 a1 a2 k, LeO (impl_DropEntry.f k a0 a1 a2) (impl_DropEntry.f (k + 1) a0 a1 a2) := by
  intro a0 a1 a2 k
  unfold impl_DropEntry.f
  exact LeO.ite (LeO.bind (by apply impl_isTable.mono) (fun _ => LeO.refl _)) (LeO.refl _)
set_option maxHeartbeats 4000000 in
set_option maxRecDepth 100000 in
theorem impl_DropEntry.calls (k : Nat) (A0_0 : Option Addr) (c0_0 : Nat) (l0_0 : List (List Int)) (A1 : Option Addr) (c1 : Nat) (l1 : List Ky.En) (a2 : List Int) (r1 : List Ky.En) (r2 : Bool) (w : World) (hr0_0 : Kd.C (Kd.slice 5 (Kd.int .u8)) w A0_0 l0_0.length l0_0) (hc0_0 : l0_0.length ≤ c0_0) (hr1 : Kd.C Ky.ke w A1 l1.length l1) (hc1 : l1.length ≤ c1) (hk2 : Ky.Key a2) (h : impl_DropEntry.f k l0_0 l1 a2 = some (r1, r2)) :
    Calls Try.prog 19 #[.agg #[.slice A0_0 l0_0.length c0_0], .slice A1 l1.length c1, .agg (Ky.bs a2)] w fun e w' => ∃ v0_ : Value, e = .returned (.tuple #[v0_, .bool r2]) ∧ Kd.R Ky.ke 66 w' w.heap.size (fun _ => True) v0_ r1 ∧ Below w.heap.size w w' := by
  have HR0 := Lib.hid hr0_0
  have HC0 := Lib.hid hc0_0
  have HR1 := Lib.hid hr1
  have HC1 := Lib.hid hc1
  have HA := Lib.hid hk2
  clear hr0_0 hc0_0 hr1 hc1 hk2
  unfold impl_DropEntry.f at h
  obtain ⟨hle, h⟩ := Ky.of_condO h
  have HM := Lib.hid hle
  clear hle
  obtain ⟨W0, hW⟩ : ∃ W, W = (w.alloc (.cells #[.slice A0_0 l0_0.length c0_0] 32)).alloc (.cells (Ky.bs a2) 26) := ⟨_, rfl⟩
  have HI : Hid (Lv.Inv w W0 [Lv.boxF (w.heap.size + 1) (Ky.bs a2) 26, Lv.boxF (w.heap.size) #[.slice A0_0 l0_0.length c0_0] 32]) := by
    subst hW
    have := ((Lv.Inv.refl w).box #[.slice A0_0 l0_0.length c0_0] 32).box (Ky.bs a2) 26
    exact Lib.hid (by simpa using this)
  obtain ⟨t, ht, h⟩ := Option.bind_eq_some_iff.mp h
  have HT := Lib.hid ht
  clear ht
  go_enter Try.func19, Try.ntmps19
  go_upto_region 1 with (fail)
  rw [← hW]
  clear hW
  cases t with
  | false =>
    rw [if_neg (by decide)] at h
    obtain ⟨rfl, rfl⟩ := Prod.mk.inj (Option.some.inj h)
    clear h
    refine Fl.startL [.take 0, .take 1, .one 2, .take 3] (by decide) HI.out ?_
    refine Fl.take (some 10) (v := .agg #[.slice A0_0 l0_0.length c0_0]) rfl rfl (Fl.ld 1 rfl (by rfl) _ _ rfl rfl Try.underlying32 rfl (by kernel_rfl)) ?_
    simp only [Act.put, Fl.z1, Fl.z2, Fl.z3]
    refine Fl.take (some 11) (v := .slice A1 l1.length c1) rfl rfl (Or.inl ⟨by rfl, fun _ _ => by rfl⟩) ?_
    simp only [Act.put, Fl.z1, Fl.z2, Fl.z3]
    refine Fl.call (some 12) Try.func40 (by kernel_rfl) rfl #[.agg #[.slice A0_0 l0_0.length c0_0], .slice A1 l1.length c1] rfl rfl rfl (by rfl) rfl (fun E W hE hi => ?_)
    refine (impl_isTable.calls k _ _ l0_0 _ _ l1 false W (Kd.C_below HR0.out hi.bel) HC0.out (Kd.C_below HR1.out hi.bel) HC1.out HT.out).mono ?_
    rintro e W' ⟨rfl, hb⟩
    refine Fl.keep (v := .bool false) hi hb ?_
    clear hi hb hE
    simp only [Act.put, Fl.z1, Fl.z2, Fl.z3]
    refine Fl.take (some 13) (v := .bool true) rfl rfl (Or.inl ⟨by rfl, fun _ _ => by rfl⟩) ?_
    simp only [Act.put, Fl.z1, Fl.z2, Fl.z3]
    refine Fl.stop (fun W hi => ?_)
    replace HI := Lib.hid hi
    clear hi
    go_wp2
    go_ret2
    exact ⟨_, rfl, Kd.R_nil _ _ _ _ _, HI.out.bel⟩
  | true =>
    rw [if_pos rfl] at h
    obtain ⟨⟨r, hb⟩, hf, h⟩ := Option.bind_eq_some_iff.mp h
    dsimp only at h
    cases hb with
    | false =>
      have HF := Lib.hid hf
      clear hf
      rw [if_neg (by decide)] at h
      obtain ⟨rfl, rfl⟩ := Prod.mk.inj (Option.some.inj h)
      clear h
      refine Fl.startL [.take 0, .take 1, .one 2, .take 3] (by decide) HI.out ?_
      refine Fl.take (some 10) (v := .agg #[.slice A0_0 l0_0.length c0_0]) rfl rfl (Fl.ld 1 rfl (by rfl) _ _ rfl rfl Try.underlying32 rfl (by kernel_rfl)) ?_
      simp only [Act.put, Fl.z1, Fl.z2, Fl.z3]
      refine Fl.take (some 11) (v := .slice A1 l1.length c1) rfl rfl (Or.inl ⟨by rfl, fun _ _ => by rfl⟩) ?_
      simp only [Act.put, Fl.z1, Fl.z2, Fl.z3]
      refine Fl.call (some 12) Try.func40 (by kernel_rfl) rfl #[.agg #[.slice A0_0 l0_0.length c0_0], .slice A1 l1.length c1] rfl rfl rfl (by rfl) rfl (fun E W hE hi => ?_)
      refine (impl_isTable.calls k _ _ l0_0 _ _ l1 true W (Kd.C_below HR0.out hi.bel) HC0.out (Kd.C_below HR1.out hi.bel) HC1.out HT.out).mono ?_
      rintro e W' ⟨rfl, hb⟩
      refine Fl.keep (v := .bool true) hi hb ?_
      clear hi hb hE
      simp only [Act.put, Fl.z1, Fl.z2, Fl.z3]
      refine Fl.take (some 13) (v := .bool false) rfl rfl (Or.inl ⟨by rfl, fun _ _ => by rfl⟩) ?_
      simp only [Act.put, Fl.z1, Fl.z2, Fl.z3]
      refine Fl.stop (fun W hi => ?_)
      replace HI := Lib.hid hi
      clear hi
      go_upto_region 3 with (fail)
      refine Fl.startL [.take 0, .take 1, .one 2, .take 3, .take 4, .take 5, .take 6, .take 7] (by decide) HI.out ?_
      refine Fl.take (some 15) (v := .slice A1 l1.length c1) rfl rfl (Or.inl ⟨by rfl, fun _ _ => by rfl⟩) ?_
      simp only [Act.put, Fl.z1, Fl.z2, Fl.z3]
      refine Fl.take (some 16) (v := .agg (Ky.bs a2)) rfl rfl (Fl.ld 0 rfl (by rfl) _ _ rfl rfl Ky.hK rfl (Ky.hKk HA.out)) ?_
      simp only [Act.put, Fl.z1, Fl.z2, Fl.z3]
      refine Fl.call (some 17) Try.func46 (by kernel_rfl) rfl #[.slice A1 l1.length c1, .agg (Ky.bs a2)] rfl rfl rfl (by rfl) rfl (fun E W hE hi => ?_)
      refine (impl_entryAt.calls _ _ l1 a2 r false W (Kd.C_below HR1.out hi.bel) HC1.out HA.out HF.out).mono ?_
      rintro e W' ⟨rfl, hb⟩
      refine Fl.keep (v := .tuple #[.int .i64 r, .bool false]) hi hb ?_
      clear hi hb hE
      simp only [Act.put, Fl.z1, Fl.z2, Fl.z3]
      refine Fl.take (some 14) (v := .tuple #[.int .i64 r, .bool false]) rfl rfl (Or.inl ⟨by rfl, fun _ _ => by rfl⟩) ?_
      simp only [Act.put, Fl.z1, Fl.z2, Fl.z3]
      refine Fl.take (some 18) (v := .int .i64 r) rfl rfl (Or.inl ⟨by rfl, fun _ _ => by rfl⟩) ?_
      simp only [Act.put, Fl.z1, Fl.z2, Fl.z3]
      refine Fl.take (some 19) (v := .bool false) rfl rfl (Or.inl ⟨by rfl, fun _ _ => by rfl⟩) ?_
      simp only [Act.put, Fl.z1, Fl.z2, Fl.z3]
      refine Fl.take (some 8) (v := .int .i64 r) rfl rfl (Or.inl ⟨by rfl, fun _ _ => by rfl⟩) ?_
      simp only [Act.put, Fl.z1, Fl.z2, Fl.z3]
      refine Fl.take (some 9) (v := .bool false) rfl rfl (Or.inl ⟨by rfl, fun _ _ => by rfl⟩) ?_
      simp only [Act.put, Fl.z1, Fl.z2, Fl.z3]
      refine Fl.stop (fun W hi => ?_)
      replace HI := Lib.hid hi
      clear hi
      go_wp2
      go_ret2
      exact ⟨_, rfl, Kd.R_nil _ _ _ _ _, HI.out.bel⟩
    | true =>
      rw [if_pos rfl] at h
      have h3 := Ky.of_condO h
      clear h
      obtain ⟨⟨hneg, hlt⟩, h⟩ := h3
      obtain ⟨m, rfl⟩ : ∃ m : Nat, r = (m : Int) := ⟨r.toNat, by omega⟩
      rw [Int.toNat_natCast] at h
      obtain ⟨rfl, rfl⟩ := Prod.mk.inj (Option.some.inj h)
      clear h
      have HMN : Hid (m < l1.length) := Lib.hid (by omega)
      have HF := Lib.hid hf
      obtain ⟨q, hq⟩ : ∃ q : Int, q = IntKind.i64.wrap ((m : Int) + 1) := ⟨_, rfl⟩
      have HQ : Hid (q = ((m + 1 : Nat) : Int)) := Lib.hid (by rw [hq, IntKind.wrap_i64]; have := HM.out; have := HMN.out; omega)
      clear hf hlt hneg
      refine Fl.startL [.take 0, .take 1, .one 2, .take 3] (by decide) HI.out ?_
      refine Fl.take (some 10) (v := .agg #[.slice A0_0 l0_0.length c0_0]) rfl rfl (Fl.ld 1 rfl (by rfl) _ _ rfl rfl Try.underlying32 rfl (by kernel_rfl)) ?_
      simp only [Act.put, Fl.z1, Fl.z2, Fl.z3]
      refine Fl.take (some 11) (v := .slice A1 l1.length c1) rfl rfl (Or.inl ⟨by rfl, fun _ _ => by rfl⟩) ?_
      simp only [Act.put, Fl.z1, Fl.z2, Fl.z3]
      refine Fl.call (some 12) Try.func40 (by kernel_rfl) rfl #[.agg #[.slice A0_0 l0_0.length c0_0], .slice A1 l1.length c1] rfl rfl rfl (by rfl) rfl (fun E W hE hi => ?_)
      refine (impl_isTable.calls k _ _ l0_0 _ _ l1 true W (Kd.C_below HR0.out hi.bel) HC0.out (Kd.C_below HR1.out hi.bel) HC1.out HT.out).mono ?_
      rintro e W' ⟨rfl, hb⟩
      refine Fl.keep (v := .bool true) hi hb ?_
      clear hi hb hE
      simp only [Act.put, Fl.z1, Fl.z2, Fl.z3]
      refine Fl.take (some 13) (v := .bool false) rfl rfl (Or.inl ⟨by rfl, fun _ _ => by rfl⟩) ?_
      simp only [Act.put, Fl.z1, Fl.z2, Fl.z3]
      refine Fl.stop (fun W hi => ?_)
      replace HI := Lib.hid hi
      clear hi
      go_upto_region 3 with (fail)
      refine Fl.startL [.take 0, .take 1, .one 2, .take 3, .take 4, .take 5, .take 6, .take 7] (by decide) HI.out ?_
      refine Fl.take (some 15) (v := .slice A1 l1.length c1) rfl rfl (Or.inl ⟨by rfl, fun _ _ => by rfl⟩) ?_
      simp only [Act.put, Fl.z1, Fl.z2, Fl.z3]
      refine Fl.take (some 16) (v := .agg (Ky.bs a2)) rfl rfl (Fl.ld 0 rfl (by rfl) _ _ rfl rfl Ky.hK rfl (Ky.hKk HA.out)) ?_
      simp only [Act.put, Fl.z1, Fl.z2, Fl.z3]
      refine Fl.call (some 17) Try.func46 (by kernel_rfl) rfl #[.slice A1 l1.length c1, .agg (Ky.bs a2)] rfl rfl rfl (by rfl) rfl (fun E W hE hi => ?_)
      refine (impl_entryAt.calls _ _ l1 a2 (m : Int) true W (Kd.C_below HR1.out hi.bel) HC1.out HA.out HF.out).mono ?_
      rintro e W' ⟨rfl, hb⟩
      refine Fl.keep (v := .tuple #[.int .i64 (m : Int), .bool true]) hi hb ?_
      clear hi hb hE
      simp only [Act.put, Fl.z1, Fl.z2, Fl.z3]
      refine Fl.take (some 14) (v := .tuple #[.int .i64 (m : Int), .bool true]) rfl rfl (Or.inl ⟨by rfl, fun _ _ => by rfl⟩) ?_
      simp only [Act.put, Fl.z1, Fl.z2, Fl.z3]
      refine Fl.take (some 18) (v := .int .i64 (m : Int)) rfl rfl (Or.inl ⟨by rfl, fun _ _ => by rfl⟩) ?_
      simp only [Act.put, Fl.z1, Fl.z2, Fl.z3]
      refine Fl.take (some 19) (v := .bool true) rfl rfl (Or.inl ⟨by rfl, fun _ _ => by rfl⟩) ?_
      simp only [Act.put, Fl.z1, Fl.z2, Fl.z3]
      refine Fl.take (some 8) (v := .int .i64 (m : Int)) rfl rfl (Or.inl ⟨by rfl, fun _ _ => by rfl⟩) ?_
      simp only [Act.put, Fl.z1, Fl.z2, Fl.z3]
      refine Fl.take (some 9) (v := .bool true) rfl rfl (Or.inl ⟨by rfl, fun _ _ => by rfl⟩) ?_
      simp only [Act.put, Fl.z1, Fl.z2, Fl.z3]
      refine Fl.stop (fun W hi => ?_)
      replace HI := Lib.hid hi
      clear hi
      go_upto_region 6 with (fail)
      refine Fl.startL [.take 0, .one 1, .take 2, .take 3, .take 4, .one 5, .take 6, .take 7] (by decide) HI.out ?_
      refine Fl.take (some 22) (v := .slice A1 l1.length c1) rfl rfl (Or.inl ⟨by rfl, fun _ _ => by rfl⟩) ?_
      simp only [Act.put, Fl.z1, Fl.z2, Fl.z3]
      refine Fl.call (some 23) Try.func48 (by kernel_rfl) rfl #[.slice A1 l1.length c1] rfl rfl rfl (by rfl) rfl (fun E W hE hi => ?_)
      refine (impl_DropEntry.clone A1 c1 l1 W (Kd.C_below HR1.out hi.bel) (Nat.lt_of_le_of_lt (Nat.zero_le _) HMN.out) HM.out).mono ?_
      rintro e W' ⟨v, rfl, hr, hb⟩
      refine Fl.addR hi hr hb ?_
      clear hi hb hE hr
      simp only [Act.put, Fl.z1, Fl.z2, Fl.z3]
      refine Fl.take (some 24) (v := .int .i64 (m : Int)) rfl rfl (Or.inl ⟨by rfl, fun _ _ => by rfl⟩) ?_
      simp only [Act.put, Fl.z1, Fl.z2, Fl.z3]
      refine Fl.take (some 25) (v := .int .i64 (m : Int)) rfl rfl (Or.inl ⟨by rfl, fun _ _ => by rfl⟩) ?_
      simp only [Act.put, Fl.z1, Fl.z2, Fl.z3]
      refine Fl.take (some 26) (v := .int .i64 q) rfl rfl (Or.inl ⟨by rfl, fun _ _ => by subst hq; first | rfl | (go_simp; done) | (go_simp; rfl)⟩) ?_
      simp only [Act.put, Fl.z1, Fl.z2, Fl.z3]
      refine Fl.call (some 27) Try.func47 (by kernel_rfl) rfl #[v, .int .i64 (m : Int), .int .i64 q] rfl rfl rfl (by rfl) rfl (fun E W hE hi => ?_)
      obtain ⟨g, cap, cs, rfl, hn, hmx, hsz, hX, hI⟩ := Ky.unrow hi (Nat.lt_of_le_of_lt (Nat.zero_le _) HMN.out)
      refine (impl_DropEntry.delete w W _ g l1.length cap m cs l1 hI rfl hn hmx hsz hX HMN.out HM.out q HQ.out).mono ?_
      rintro e W' ⟨rfl, c2, hs2, hX2, hI2⟩
      refine Fl.keepI (F := []) (F' := [Lv.rowF Ky.ke 66 w.heap.size (.slice (some ⟨g, 0, none⟩) (l1.length - 1) cap) (l1.take m ++ l1.drop (m + 1))]) (Ky.rerow hI2 (by have := HMN.out; rw [List.length_append, List.length_take, List.length_drop]; omega) (by omega) hmx hs2 hX2) ?_
      clear hi hE hI hI2 hX hX2 hs2 hsz hn hmx
      simp only [Act.put, Fl.z1, Fl.z2, Fl.z3]
      refine Fl.take (some 6) (v := .slice (some ⟨g, 0, none⟩) (l1.length - 1) cap) rfl rfl (Or.inl ⟨by rfl, fun _ _ => by rfl⟩) ?_
      simp only [Act.put, Fl.z1, Fl.z2, Fl.z3]
      refine Fl.take (some 7) (v := .bool true) rfl rfl (Or.inl ⟨by rfl, fun _ _ => by rfl⟩) ?_
      simp only [Act.put, Fl.z1, Fl.z2, Fl.z3]
      refine Fl.stop (fun W hi => ?_)
      replace HI := Lib.hid hi
      clear hi
      go_wp2
      go_ret2
      obtain ⟨S, _, hR⟩ := HI.out.get 0 rfl
      exact ⟨_, rfl, Kd.R_mono hR (fun _ _ => trivial), HI.out.bel⟩

end Go.Proofs.Ytkifenbcepicjaa.PFnExactDropEntry
