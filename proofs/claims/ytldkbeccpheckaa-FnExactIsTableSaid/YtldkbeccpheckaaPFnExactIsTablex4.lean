/- What is proved here: each Go function that is named below answers, and leaves memory, as the theorem of its name says; no condition beyond those that each theorem states. Laid by this session's own program (wip/driver.py) over the kit's print. -/
import Derived.Test.YtldkbeccpheckaaPFnExactIsTablex0
import Derived.Test.YtldkbeccpheckaaPFnExactIsTablex1
import Derived.Test.YtldkbeccpheckaaPFnExactIsTablex2
import Derived.Test.YtldkbeccpheckaaPFnExactIsTablex3
namespace Go.Proofs.Ytldkbeccpheckaa.PFnExactIsTable
open Go.RowKit Go.Proofs.YtldkbeccpheckaaW.PrintWords Go.Proofs.YtldkbeccpheckaaW.PrintLast Go.Proofs.YtldkbeccpheckaaW.PrintMore
attribute [local go_sem] max2_int min2_int max_two min_two max_three min_three max_four min_four   -- for this text's walks alone
set_option linter.unusedVariables false
set_option linter.unusedSimpArgs false

/-! ### impl_isTable: function 63 (by hand) -/
def impl_isTable.fin (k : Nat) (m : List (List Int)) (n : Nat) : Option Bool := (impl_IsMemory.f k m).bind fun b => some (b && decide ((n : Int) ≤ 12))
def impl_isTable.cmp : Option Ky.En → Ky.En → Option Bool
  | none, _ => some true
  | some p, x => (impl_compareKeys.f p.key x.key).bind fun c => some (decide (c < 0))
def impl_isTable.go (k : Nat) (m : List (List Int)) (n : Nat) : Option Ky.En → List Ky.En → Option Bool
  | _, [] => impl_isTable.fin k m n
  | p, x :: xs => (impl_areOn.f k m [(⟨x.a, x.s, x.l, x.c⟩ : S33)]).bind fun b => if b = true then (impl_isTable.cmp p x).bind fun t => if t = true then impl_isTable.go k m n (some x) xs else some false else some false
def impl_isTable.f (k : Nat) (m : List (List Int)) (t : List Ky.En) : Option Bool := if t.length ≤ 1048576 then impl_isTable.go k m t.length none t else none
theorem impl_isTable.mono_fin (k : Nat) (m : List (List Int)) (n : Nat) : LeO (impl_isTable.fin k m n) (impl_isTable.fin (k + 1) m n) := by
  unfold impl_isTable.fin
  exact LeO.bind (by apply impl_IsMemory.mono) (fun _ => LeO.refl _)
theorem impl_isTable.mono_go (k : Nat) (m : List (List Int)) (n : Nat) : ∀ (xs : List Ky.En) (p : Option Ky.En), LeO (impl_isTable.go k m n p xs) (impl_isTable.go (k + 1) m n p xs)
  | [], p => by
    unfold impl_isTable.go
    exact impl_isTable.mono_fin k m n
  | x :: xs, p => by
    unfold impl_isTable.go
    exact LeO.bind (by apply impl_areOn.mono) (fun _ => LeO.ite (LeO.bind (LeO.refl _) (fun _ => LeO.ite (impl_isTable.mono_go k m n xs _) (LeO.refl _))) (LeO.refl _))
theorem impl_isTable.mono : ∀ a0 a1 k, LeO (impl_isTable.f k a0 a1) (impl_isTable.f (k + 1) a0 a1) := by
  intro a0 a1 k
  unfold impl_isTable.f
  exact LeO.ite (impl_isTable.mono_go k _ _ _ _) (LeO.refl _)
set_option maxHeartbeats 4000000 in
set_option maxRecDepth 100000 in
theorem impl_isTable.calls (k : Nat) (A0_0 : Option Addr) (c0_0 : Nat) (l0_0 : List (List Int)) (A1 : Option Addr) (c1 : Nat) (l1 : List Ky.En) (r : Bool) (w : World) (hr0_0 : Kd.C (Kd.slice 5 (Kd.int .u8)) w A0_0 l0_0.length l0_0) (hc0_0 : l0_0.length ≤ c0_0) (hr1 : Kd.C Ky.ke w A1 l1.length l1) (hc1 : l1.length ≤ c1) (h : impl_isTable.f k l0_0 l1 = some r) :
    Calls Try.prog 63 #[.agg #[.slice A0_0 l0_0.length c0_0], .slice A1 l1.length c1] w fun e w' => e = .returned (.bool r) ∧ Below w.heap.size w w' := by
  have HR0 := Lib.hid hr0_0
  have HC0 := Lib.hid hc0_0
  have HR1 := Lib.hid hr1
  clear hr0_0 hc0_0 hr1 hc1
  unfold impl_isTable.f at h
  obtain ⟨n, hn⟩ : ∃ n, n = l1.length := ⟨_, rfl⟩
  rw [← hn] at h ⊢
  obtain ⟨hle, h⟩ := Ky.of_condO h
  have HN := Lib.hid hn
  have HM := Lib.hid hle
  have HH := Lib.hid h
  clear hn h hle
  obtain ⟨W0, hW⟩ : ∃ W, W = w.alloc (.cells #[.slice A0_0 l0_0.length c0_0] 31) := ⟨_, rfl⟩
  have HI : Hid (Lv.Inv w W0 [Lv.boxF (w.heap.size) #[.slice A0_0 l0_0.length c0_0] 31]) := by
    subst hW
    have := (Lv.Inv.refl w).box #[.slice A0_0 l0_0.length c0_0] 31
    exact Lib.hid (by simpa using this)
  go_enter Try.func63, Try.ntmps63
  go_upto_region 1 with (fail)
  rw [← hW]
  clear hW
  go_wp2
  go_loopg [5, 6, 9] n (fun gg _ _ s9 wr => ∃ (i : Nat), s9 = .int .i64 i ∧ Hid (i ≤ n ∧ n - i ≤ gg) ∧ Hid (impl_isTable.go k l0_0 n (Ky.prev l1 i) (l1.drop i) = some r) ∧ Hid (Lv.Inv w wr [Lv.boxF (w.heap.size) #[.slice A0_0 l0_0.length c0_0] 31]))
  case atStart => exact ⟨0, rfl, Lib.hid (by omega), HH, HI⟩
  case round =>
    clear HI HH
    obtain ⟨i, rfl, HK, HG, HI⟩ := hrel
    by_cases hlt : i < n
    · obtain ⟨b, o, hA, hrow⟩ := Ky.row_entry HR1.out (by have := HN.out; omega)
      obtain ⟨x, hx⟩ : ∃ x, l1[i]? = some x := ⟨_, List.getElem?_eq_getElem (by have := HN.out; omega)⟩
      have HKx := Lib.hid (hrow i x hx).1
      have HCx := Lib.hid (hrow i x hx).2
      have HPV := Lib.hid (Ky.prev_succ hx)
      have hg := HG.out
      obtain ⟨hxl, hxe⟩ := List.getElem?_eq_some_iff.1 hx
      rw [List.drop_eq_getElem_cons hxl, hxe, impl_isTable.go] at hg
      clear hx hxl hxe HG
      have k0 : (0 : Int) ≤ (i : Int) := by omega
      have k1 : (i : Int) < (n : Int) := by omega
      have k3 : ((n : Int)).toNat ≤ 1048576 := by have := HM.out; omega
      obtain ⟨t, ht, hg⟩ := Option.bind_eq_some_iff.mp hg
      have HT := Lib.hid ht
      clear ht
      cases t with
      | false =>
        rw [if_neg (by decide)] at hg
        obtain rfl := Option.some.inj hg
        clear hg hrow
        subst hA
        go_upto_region 3 with (fail)
        refine Fl.startL [.take 0, .take 1, .take 2, .one 3, .take 4, .one 5] (by decide) HI.out ?_
        refine Fl.take (some 11) (v := .int .i64 (i : Int)) rfl rfl (Or.inl ⟨by rfl, fun _ _ => by rfl⟩) ?_
        simp only [Act.put, Fl.z1, Fl.z2, Fl.z3]
        refine Fl.take (some 12) (v := .pointer (some ⟨b, o + i * 20, none⟩)) rfl rfl (Or.inl ⟨by rfl, fun _ _ => by first | rfl | (go_simp; done) | (go_simp; rfl) | (go_simp; omega)⟩) ?_
        simp only [Act.put, Fl.z1, Fl.z2, Fl.z3]
        refine Fl.take (some 13) (v := .agg (Ky.ec x)) rfl rfl (yieldsIf_load_mid (by rfl) 91 _ rfl b (o + i * 20) rfl (Ky.ec x).toList _ (fun W1 hW1 => Ky.range_below HCx.out hW1.bel) Try.underlying91 rfl (by rw [Array.length_toList]; exact Ky.hEk HKx.out)) ?_
        simp only [Act.put, Fl.z1, Fl.z2, Fl.z3]
        refine Fl.var (N := 6) (cs := Ky.ec Ky.En0) (t := 91) ⟨_, rfl, rfl, fun _ => rfl, fun e w => by go_simp; rfl⟩ (fun be => ?_)
        simp only [Act.put, Fl.z1, Fl.z2, Fl.z3]
        refine Fl.take (some 5) (v := .int .i64 (i : Int)) rfl rfl (Or.inl ⟨by rfl, fun _ _ => by rfl⟩) ?_
        simp only [Act.put, Fl.z1, Fl.z2, Fl.z3]
        refine Fl.store 0 (Ky.ec x) rfl rfl rfl rfl _ _ _ rfl rfl rfl (by rfl) (by rw [Ky.ec_size HKx.out, Ky.ec_size Ky.key_0]) (Ky.hEk HKx.out) (Ky.ec_one x) ?_
        refine Fl.stop (fun W hi => ?_)
        replace HI := Lib.hid hi
        clear hi
        go_upto_region 4 with (fail)
        refine Fl.start [([],[]),([],[]),([1],[1]),([2],[2]),([0,3],[0,3]),([4],[4]),([5,4],[5]),([6],[6]),([7,6],[6,7]),([8,6,6],[6,8]),([9],[9]),([9],[9]),([11,9],[9,11]),([10,12,9],[9,10,12]),([13,9],[9,13]),([14,9],[9,14]),([9],[9]),([16,9],[9,16]),([15,17,9,9],[9,15,17]),([18,9],[9,18]),([9,19,6],[6,9,19]),([6,20],[6,20])] [] 23 [.take 0, .take 1, .take 2, .one 3, .one 4, .take 5, .take 6, .take 7, .take 8, .take 9, .take 10, .take 11, .take 12, .take 13, .take 14, .take 15, .take 16, .take 17, .take 18, .take 19, .take 20, .take 21] [] (by kernel_rfl) (by kernel_rfl) (by decide) (by decide) (by kernel_rfl) (by kernel_rfl) Fl.mk0 HI.out ?_
        refine Fl.take (some 14) (v := .agg #[.slice A0_0 l0_0.length c0_0]) rfl rfl (Fl.ld 1 rfl (by rfl) _ _ rfl rfl Try.underlying31 rfl (by kernel_rfl)) ?_
        simp only [Act.put, Fl.z1, Fl.z2, Fl.z3]
        refine Fl.take (some 15) (v := .pointer (some ⟨be, 16, none⟩)) rfl rfl (Or.inl ⟨by rfl, fun _ _ => by first | rfl | (go_simp; done) | (go_simp; rfl) | (go_simp; omega)⟩) ?_
        simp only [Act.put, Fl.z1, Fl.z2, Fl.z3]
        refine Fl.take (some 16) (v := .agg (Ky.wc x)) rfl rfl (Fl.ldP 0 16 (Ky.wc x) rfl (by rfl) _ _ rfl rfl (Ky.ec_win HKx.out) Try.underlying33 rfl (by kernel_rfl)) ?_
        simp only [Act.put, Fl.z1, Fl.z2, Fl.z3]
        refine Fl.lit (N := 17) (cs := Ky.wc x) (t := 33) (n := 1) rfl rfl (by rfl) (fun w => by first | (go_simp; done) | (go_simp; rfl)) (fun b1 => ?_)
        simp only [Act.put, Fl.z1, Fl.z2, Fl.z3]
        refine Fl.call (some 18) Try.func55 (by kernel_rfl) rfl #[.agg #[.slice A0_0 l0_0.length c0_0], .slice (some ⟨b1, 0, none⟩) 1 1] rfl rfl rfl (by rfl) rfl (fun E W hE hi => ?_)
        refine (impl_areOn.calls k _ _ l0_0 _ _ [(⟨x.a, x.s, x.l, x.c⟩ : S33)] false W (Kd.C_below HR0.out hi.bel) HC0.out (Fl.c_one (hi.blk 0 rfl) (k33_mk _ ⟨x.a, x.s, x.l, x.c⟩)) (Nat.le_refl _) HT.out).mono ?_
        rintro e W' ⟨rfl, hb⟩
        refine Fl.keep (v := .bool false) hi hb ?_
        clear hi hb hE
        simp only [Act.put, Fl.z1, Fl.z2, Fl.z3]
        refine Fl.take (some 19) (v := .bool true) rfl rfl (Or.inl ⟨by rfl, fun _ _ => by rfl⟩) ?_
        simp only [Act.put, Fl.z1, Fl.z2, Fl.z3]
        refine Fl.take (some 20) (v := .bool true) rfl rfl (Or.inl ⟨by rfl, fun _ _ => by rfl⟩) ?_
        simp only [Act.put, Fl.z1, Fl.z2, Fl.z3]
        refine Fl.take (some 21) (v := undef) rfl rfl (Or.inr ⟨by rfl, rfl⟩) ?_
        simp only [Act.put, Fl.z1, Fl.z2, Fl.z3]
        refine Fl.take (some 22) (v := undef) rfl rfl (Or.inr ⟨by rfl, rfl⟩) ?_
        simp only [Act.put, Fl.z1, Fl.z2, Fl.z3]
        refine Fl.take (some 23) (v := undef) rfl rfl (Or.inr ⟨by rfl, rfl⟩) ?_
        simp only [Act.put, Fl.z1, Fl.z2, Fl.z3]
        refine Fl.take (some 24) (v := undef) rfl rfl (Or.inr ⟨by rfl, rfl⟩) ?_
        simp only [Act.put, Fl.z1, Fl.z2, Fl.z3]
        refine Fl.take (some 25) (v := undef) rfl rfl (Or.inr ⟨by rfl, rfl⟩) ?_
        simp only [Act.put, Fl.z1, Fl.z2, Fl.z3]
        refine Fl.take (some 26) (v := undef) rfl rfl (Or.inr ⟨by rfl, rfl⟩) ?_
        simp only [Act.put, Fl.z1, Fl.z2, Fl.z3]
        refine Fl.take (some 27) (v := undef) rfl rfl (Or.inr ⟨by rfl, rfl⟩) ?_
        simp only [Act.put, Fl.z1, Fl.z2, Fl.z3]
        refine Fl.take (some 28) (v := undef) rfl rfl (Or.inr ⟨by rfl, rfl⟩) ?_
        simp only [Act.put, Fl.z1, Fl.z2, Fl.z3]
        refine Fl.take (some 29) (v := undef) rfl rfl (Or.inr ⟨by rfl, rfl⟩) ?_
        simp only [Act.put, Fl.z1, Fl.z2, Fl.z3]
        refine Fl.take (some 30) (v := undef) rfl rfl (Or.inr ⟨by rfl, rfl⟩) ?_
        simp only [Act.put, Fl.z1, Fl.z2, Fl.z3]
        refine Fl.take (some 31) (v := undef) rfl rfl (Or.inr ⟨by rfl, rfl⟩) ?_
        simp only [Act.put, Fl.z1, Fl.z2, Fl.z3]
        refine Fl.take (some 32) (v := undef) rfl rfl (Or.inr ⟨by rfl, rfl⟩) ?_
        simp only [Act.put, Fl.z1, Fl.z2, Fl.z3]
        refine Fl.take (some 33) (v := undef) rfl rfl (Or.inr ⟨by rfl, rfl⟩) ?_
        simp only [Act.put, Fl.z1, Fl.z2, Fl.z3]
        refine Fl.take (some 34) (v := undef) rfl rfl (Or.inr ⟨by rfl, rfl⟩) ?_
        simp only [Act.put, Fl.z1, Fl.z2, Fl.z3]
        refine Fl.take (some 35) (v := .bool true) rfl rfl (Or.inl ⟨by rfl, fun _ _ => by rfl⟩) ?_
        simp only [Act.put, Fl.z1, Fl.z2, Fl.z3]
        refine Fl.fin0 ?_
        refine Fl.stopN (fun W hi => ?_)
        have HI2 := Lib.hid hi
        clear hi
        go_wp2
        go_ret
        exact ⟨rfl, HI2.out.bel⟩
      | true =>
        rw [if_pos rfl] at hg
        obtain ⟨t, ht, hg⟩ := Option.bind_eq_some_iff.mp hg
        by_cases hi0 : i = 0
        · subst hi0
          obtain rfl := Option.some.inj (show some true = some t from ht)
          rw [if_pos rfl] at hg
          have HG := Lib.hid (show impl_isTable.go k l0_0 n (Ky.prev l1 (0 + 1)) (l1.drop (0 + 1)) = some r by rw [HPV.out]; exact hg)
          clear hg hrow ht
          subst hA
          go_upto_region 3 with (fail)
          refine Fl.startL [.take 0, .take 1, .take 2, .one 3, .take 4, .one 5] (by decide) HI.out ?_
          refine Fl.take (some 11) (v := .int .i64 0) rfl rfl (Or.inl ⟨by rfl, fun _ _ => by rfl⟩) ?_
          simp only [Act.put, Fl.z1, Fl.z2, Fl.z3]
          refine Fl.take (some 12) (v := .pointer (some ⟨b, o, none⟩)) rfl rfl (Or.inl ⟨by rfl, fun _ _ => by first | rfl | (go_simp; done) | (go_simp; rfl) | (go_simp; omega)⟩) ?_
          simp only [Act.put, Fl.z1, Fl.z2, Fl.z3]
          refine Fl.take (some 13) (v := .agg (Ky.ec x)) rfl rfl (yieldsIf_load_mid (by rfl) 91 _ rfl b (o) rfl (Ky.ec x).toList _ (fun W1 hW1 => Ky.range_below HCx.out hW1.bel) Try.underlying91 rfl (by rw [Array.length_toList]; exact Ky.hEk HKx.out)) ?_
          simp only [Act.put, Fl.z1, Fl.z2, Fl.z3]
          refine Fl.var (N := 6) (cs := Ky.ec Ky.En0) (t := 91) ⟨_, rfl, rfl, fun _ => rfl, fun e w => by go_simp; rfl⟩ (fun be => ?_)
          simp only [Act.put, Fl.z1, Fl.z2, Fl.z3]
          refine Fl.take (some 5) (v := .int .i64 0) rfl rfl (Or.inl ⟨by rfl, fun _ _ => by rfl⟩) ?_
          simp only [Act.put, Fl.z1, Fl.z2, Fl.z3]
          refine Fl.store 0 (Ky.ec x) rfl rfl rfl rfl _ _ _ rfl rfl rfl (by rfl) (by rw [Ky.ec_size HKx.out, Ky.ec_size Ky.key_0]) (Ky.hEk HKx.out) (Ky.ec_one x) ?_
          refine Fl.stop (fun W hi => ?_)
          replace HI := Lib.hid hi
          clear hi
          go_upto_region 4 with (fail)
          refine Fl.start [([],[]),([],[]),([1],[1]),([2],[2]),([0,3],[0,3]),([4],[4]),([5,4],[5]),([6],[6]),([7,6],[6,7]),([8,6,6],[6,8]),([9],[9]),([9],[9]),([11,9],[9,11]),([10,12,9],[9,10,12]),([13,9],[9,13]),([14,9],[9,14]),([9],[9]),([16,9],[9,16]),([15,17,9,9],[9,15,17]),([18,9],[9,18]),([9,19,6],[6,9,19]),([6,20],[6,20])] [] 23 [.take 0, .take 1, .take 2, .one 3, .one 4, .take 5, .take 6, .take 7, .take 8, .take 9, .take 10, .take 11, .take 12, .take 13, .take 14, .take 15, .take 16, .take 17, .take 18, .take 19, .take 20, .take 21] [] (by kernel_rfl) (by kernel_rfl) (by decide) (by decide) (by kernel_rfl) (by kernel_rfl) Fl.mk0 HI.out ?_
          refine Fl.take (some 14) (v := .agg #[.slice A0_0 l0_0.length c0_0]) rfl rfl (Fl.ld 1 rfl (by rfl) _ _ rfl rfl Try.underlying31 rfl (by kernel_rfl)) ?_
          simp only [Act.put, Fl.z1, Fl.z2, Fl.z3]
          refine Fl.take (some 15) (v := .pointer (some ⟨be, 16, none⟩)) rfl rfl (Or.inl ⟨by rfl, fun _ _ => by first | rfl | (go_simp; done) | (go_simp; rfl) | (go_simp; omega)⟩) ?_
          simp only [Act.put, Fl.z1, Fl.z2, Fl.z3]
          refine Fl.take (some 16) (v := .agg (Ky.wc x)) rfl rfl (Fl.ldP 0 16 (Ky.wc x) rfl (by rfl) _ _ rfl rfl (Ky.ec_win HKx.out) Try.underlying33 rfl (by kernel_rfl)) ?_
          simp only [Act.put, Fl.z1, Fl.z2, Fl.z3]
          refine Fl.lit (N := 17) (cs := Ky.wc x) (t := 33) (n := 1) rfl rfl (by rfl) (fun w => by first | (go_simp; done) | (go_simp; rfl)) (fun b1 => ?_)
          simp only [Act.put, Fl.z1, Fl.z2, Fl.z3]
          refine Fl.call (some 18) Try.func55 (by kernel_rfl) rfl #[.agg #[.slice A0_0 l0_0.length c0_0], .slice (some ⟨b1, 0, none⟩) 1 1] rfl rfl rfl (by rfl) rfl (fun E W hE hi => ?_)
          refine (impl_areOn.calls k _ _ l0_0 _ _ [(⟨x.a, x.s, x.l, x.c⟩ : S33)] true W (Kd.C_below HR0.out hi.bel) HC0.out (Fl.c_one (hi.blk 0 rfl) (k33_mk _ ⟨x.a, x.s, x.l, x.c⟩)) (Nat.le_refl _) HT.out).mono ?_
          rintro e W' ⟨rfl, hb⟩
          refine Fl.keep (v := .bool true) hi hb ?_
          clear hi hb hE
          simp only [Act.put, Fl.z1, Fl.z2, Fl.z3]
          refine Fl.take (some 19) (v := .bool false) rfl rfl (Or.inl ⟨by rfl, fun _ _ => by rfl⟩) ?_
          simp only [Act.put, Fl.z1, Fl.z2, Fl.z3]
          refine Fl.take (some 20) (v := .bool false) rfl rfl (Or.inl ⟨by rfl, fun _ _ => by rfl⟩) ?_
          simp only [Act.put, Fl.z1, Fl.z2, Fl.z3]
          refine Fl.take (some 21) (v := .int .i64 0) rfl rfl (Or.inl ⟨by rfl, fun _ _ => by rfl⟩) ?_
          simp only [Act.put, Fl.z1, Fl.z2, Fl.z3]
          refine Fl.take (some 22) (v := .bool false) rfl rfl (Or.inl ⟨by rfl, fun _ _ => by first | rfl | (go_simp; done) | (go_simp; rfl) | (go_simp; omega)⟩) ?_
          simp only [Act.put, Fl.z1, Fl.z2, Fl.z3]
          refine Fl.take (some 23) (v := .bool false) rfl rfl (Or.inl ⟨by rfl, fun _ _ => by rfl⟩) ?_
          simp only [Act.put, Fl.z1, Fl.z2, Fl.z3]
          refine Fl.take (some 24) (v := undef) rfl rfl (Or.inr ⟨by rfl, rfl⟩) ?_
          simp only [Act.put, Fl.z1, Fl.z2, Fl.z3]
          refine Fl.take (some 25) (v := undef) rfl rfl (Or.inr ⟨by rfl, rfl⟩) ?_
          simp only [Act.put, Fl.z1, Fl.z2, Fl.z3]
          refine Fl.take (some 26) (v := undef) rfl rfl (Or.inr ⟨by rfl, rfl⟩) ?_
          simp only [Act.put, Fl.z1, Fl.z2, Fl.z3]
          refine Fl.take (some 27) (v := undef) rfl rfl (Or.inr ⟨by rfl, rfl⟩) ?_
          simp only [Act.put, Fl.z1, Fl.z2, Fl.z3]
          refine Fl.take (some 28) (v := undef) rfl rfl (Or.inr ⟨by rfl, rfl⟩) ?_
          simp only [Act.put, Fl.z1, Fl.z2, Fl.z3]
          refine Fl.take (some 29) (v := undef) rfl rfl (Or.inr ⟨by rfl, rfl⟩) ?_
          simp only [Act.put, Fl.z1, Fl.z2, Fl.z3]
          refine Fl.take (some 30) (v := undef) rfl rfl (Or.inr ⟨by rfl, rfl⟩) ?_
          simp only [Act.put, Fl.z1, Fl.z2, Fl.z3]
          refine Fl.take (some 31) (v := undef) rfl rfl (Or.inr ⟨by rfl, rfl⟩) ?_
          simp only [Act.put, Fl.z1, Fl.z2, Fl.z3]
          refine Fl.take (some 32) (v := undef) rfl rfl (Or.inr ⟨by rfl, rfl⟩) ?_
          simp only [Act.put, Fl.z1, Fl.z2, Fl.z3]
          refine Fl.take (some 33) (v := undef) rfl rfl (Or.inr ⟨by rfl, rfl⟩) ?_
          simp only [Act.put, Fl.z1, Fl.z2, Fl.z3]
          refine Fl.take (some 34) (v := .bool false) rfl rfl (Or.inl ⟨by rfl, fun _ _ => by rfl⟩) ?_
          simp only [Act.put, Fl.z1, Fl.z2, Fl.z3]
          refine Fl.take (some 35) (v := .bool false) rfl rfl (Or.inl ⟨by rfl, fun _ _ => by rfl⟩) ?_
          simp only [Act.put, Fl.z1, Fl.z2, Fl.z3]
          refine Fl.fin0 ?_
          refine Fl.stopN (fun W hi => ?_)
          have HI2 := Lib.hid hi
          clear hi
          go_wp2
          go_roundg (n - (0 + 1))
          case measure => have := HK.out; omega
          case rel => exact ⟨0 + 1, by go_num, Lib.hid (by have := HK.out; omega), HG, Lib.hid (Fl.inv_drop (N := [_, _]) HI2.out)⟩
        · obtain ⟨p, hp⟩ : ∃ p, l1[i - 1]? = some p := ⟨_, List.getElem?_eq_getElem (by have := HN.out; omega)⟩
          have HKp := Lib.hid (hrow (i - 1) p hp).1
          have HCp := Lib.hid (hrow (i - 1) p hp).2
          rw [show Ky.prev l1 i = some p from by unfold Ky.prev; rw [if_neg hi0]; exact hp, impl_isTable.cmp] at ht
          obtain ⟨cm, hcm, ht⟩ := Option.bind_eq_some_iff.mp ht
          obtain rfl := Option.some.inj ht
          have HL := Lib.hid hcm
          rw [show i - 1 = ((i : Int) - 1).toNat from by omega] at HCp
          have g0 : (0 : Int) ≤ (i : Int) - 1 := by omega
          have g1 : (i : Int) - 1 < (n : Int) := by omega
          have g2 : decide ((i : Int) > 0) = true := decide_eq_true (by omega)
          have g3 : IntKind.i64.wrap ((i : Int) - 1) = (i : Int) - 1 := by rw [IntKind.wrap_i64]; omega
          have g4 : (0 : Int) < (i : Int) := by omega
          have g7 : ((i : Int) < 1) = False := by simp; omega
          clear hp hrow hcm ht
          subst hA
          by_cases hlf : cm < 0
          · rw [if_pos (decide_eq_true hlf)] at hg
            have HG := Lib.hid (show impl_isTable.go k l0_0 n (Ky.prev l1 (i + 1)) (l1.drop (i + 1)) = some r by rw [HPV.out]; exact hg)
            clear hg
            go_upto_region 3 with (fail)
            refine Fl.startL [.take 0, .take 1, .take 2, .one 3, .take 4, .one 5] (by decide) HI.out ?_
            refine Fl.take (some 11) (v := .int .i64 (i : Int)) rfl rfl (Or.inl ⟨by rfl, fun _ _ => by rfl⟩) ?_
            simp only [Act.put, Fl.z1, Fl.z2, Fl.z3]
            refine Fl.take (some 12) (v := .pointer (some ⟨b, o + i * 20, none⟩)) rfl rfl (Or.inl ⟨by rfl, fun _ _ => by first | rfl | (go_simp; done) | (go_simp; rfl) | (go_simp; omega)⟩) ?_
            simp only [Act.put, Fl.z1, Fl.z2, Fl.z3]
            refine Fl.take (some 13) (v := .agg (Ky.ec x)) rfl rfl (yieldsIf_load_mid (by rfl) 91 _ rfl b (o + i * 20) rfl (Ky.ec x).toList _ (fun W1 hW1 => Ky.range_below HCx.out hW1.bel) Try.underlying91 rfl (by rw [Array.length_toList]; exact Ky.hEk HKx.out)) ?_
            simp only [Act.put, Fl.z1, Fl.z2, Fl.z3]
            refine Fl.var (N := 6) (cs := Ky.ec Ky.En0) (t := 91) ⟨_, rfl, rfl, fun _ => rfl, fun e w => by go_simp; rfl⟩ (fun be => ?_)
            simp only [Act.put, Fl.z1, Fl.z2, Fl.z3]
            refine Fl.take (some 5) (v := .int .i64 (i : Int)) rfl rfl (Or.inl ⟨by rfl, fun _ _ => by rfl⟩) ?_
            simp only [Act.put, Fl.z1, Fl.z2, Fl.z3]
            refine Fl.store 0 (Ky.ec x) rfl rfl rfl rfl _ _ _ rfl rfl rfl (by rfl) (by rw [Ky.ec_size HKx.out, Ky.ec_size Ky.key_0]) (Ky.hEk HKx.out) (Ky.ec_one x) ?_
            refine Fl.stop (fun W hi => ?_)
            replace HI := Lib.hid hi
            clear hi
            go_upto_region 4 with (fail)
            refine Fl.start [([],[]),([],[]),([1],[1]),([2],[2]),([0,3],[0,3]),([4],[4]),([5,4],[5]),([6],[6]),([7,6],[6,7]),([8,6,6],[6,8]),([9],[9]),([9],[9]),([11,9],[9,11]),([10,12,9],[9,10,12]),([13,9],[9,13]),([14,9],[9,14]),([9],[9]),([16,9],[9,16]),([15,17,9,9],[9,15,17]),([18,9],[9,18]),([9,19,6],[6,9,19]),([6,20],[6,20])] [] 23 [.take 0, .take 1, .take 2, .one 3, .one 4, .take 5, .take 6, .take 7, .take 8, .take 9, .take 10, .take 11, .take 12, .take 13, .take 14, .take 15, .take 16, .take 17, .one 18, .take 19, .take 20, .take 21] [] (by kernel_rfl) (by kernel_rfl) (by decide) (by decide) (by kernel_rfl) (by kernel_rfl) Fl.mk0 HI.out ?_
            refine Fl.take (some 14) (v := .agg #[.slice A0_0 l0_0.length c0_0]) rfl rfl (Fl.ld 1 rfl (by rfl) _ _ rfl rfl Try.underlying31 rfl (by kernel_rfl)) ?_
            simp only [Act.put, Fl.z1, Fl.z2, Fl.z3]
            refine Fl.take (some 15) (v := .pointer (some ⟨be, 16, none⟩)) rfl rfl (Or.inl ⟨by rfl, fun _ _ => by first | rfl | (go_simp; done) | (go_simp; rfl) | (go_simp; omega)⟩) ?_
            simp only [Act.put, Fl.z1, Fl.z2, Fl.z3]
            refine Fl.take (some 16) (v := .agg (Ky.wc x)) rfl rfl (Fl.ldP 0 16 (Ky.wc x) rfl (by rfl) _ _ rfl rfl (Ky.ec_win HKx.out) Try.underlying33 rfl (by kernel_rfl)) ?_
            simp only [Act.put, Fl.z1, Fl.z2, Fl.z3]
            refine Fl.lit (N := 17) (cs := Ky.wc x) (t := 33) (n := 1) rfl rfl (by rfl) (fun w => by first | (go_simp; done) | (go_simp; rfl)) (fun b1 => ?_)
            simp only [Act.put, Fl.z1, Fl.z2, Fl.z3]
            refine Fl.call (some 18) Try.func55 (by kernel_rfl) rfl #[.agg #[.slice A0_0 l0_0.length c0_0], .slice (some ⟨b1, 0, none⟩) 1 1] rfl rfl rfl (by rfl) rfl (fun E W hE hi => ?_)
            refine (impl_areOn.calls k _ _ l0_0 _ _ [(⟨x.a, x.s, x.l, x.c⟩ : S33)] true W (Kd.C_below HR0.out hi.bel) HC0.out (Fl.c_one (hi.blk 0 rfl) (k33_mk _ ⟨x.a, x.s, x.l, x.c⟩)) (Nat.le_refl _) HT.out).mono ?_
            rintro e W' ⟨rfl, hb⟩
            refine Fl.keep (v := .bool true) hi hb ?_
            clear hi hb hE
            simp only [Act.put, Fl.z1, Fl.z2, Fl.z3]
            refine Fl.take (some 19) (v := .bool false) rfl rfl (Or.inl ⟨by rfl, fun _ _ => by rfl⟩) ?_
            simp only [Act.put, Fl.z1, Fl.z2, Fl.z3]
            refine Fl.take (some 20) (v := .bool false) rfl rfl (Or.inl ⟨by rfl, fun _ _ => by rfl⟩) ?_
            simp only [Act.put, Fl.z1, Fl.z2, Fl.z3]
            refine Fl.take (some 21) (v := .int .i64 (i : Int)) rfl rfl (Or.inl ⟨by rfl, fun _ _ => by rfl⟩) ?_
            simp only [Act.put, Fl.z1, Fl.z2, Fl.z3]
            refine Fl.take (some 22) (v := .bool true) rfl rfl (Or.inl ⟨by rfl, fun _ _ => by first | rfl | (go_simp; done) | (go_simp; rfl) | (go_simp; omega)⟩) ?_
            simp only [Act.put, Fl.z1, Fl.z2, Fl.z3]
            refine Fl.take (some 23) (v := .bool true) rfl rfl (Or.inl ⟨by rfl, fun _ _ => by rfl⟩) ?_
            simp only [Act.put, Fl.z1, Fl.z2, Fl.z3]
            refine Fl.take (some 24) (v := .slice (some ⟨b, o, none⟩) n c1) rfl rfl (Or.inl ⟨by rfl, fun _ _ => by rfl⟩) ?_
            simp only [Act.put, Fl.z1, Fl.z2, Fl.z3]
            refine Fl.take (some 25) (v := .int .i64 (i : Int)) rfl rfl (Or.inl ⟨by rfl, fun _ _ => by rfl⟩) ?_
            simp only [Act.put, Fl.z1, Fl.z2, Fl.z3]
            refine Fl.take (some 26) (v := .int .i64 ((i : Int) - 1)) rfl rfl (Or.inl ⟨by rfl, fun _ _ => by first | rfl | (go_simp; done) | (go_simp; rfl) | (go_simp; omega)⟩) ?_
            simp only [Act.put, Fl.z1, Fl.z2, Fl.z3]
            refine Fl.take (some 27) (v := .pointer (some ⟨b, o + ((i : Int) - 1).toNat * 20, none⟩)) rfl rfl (Or.inl ⟨by rfl, fun _ _ => by first | rfl | (go_simp; done) | (go_simp; rfl) | (go_simp; omega)⟩) ?_
            simp only [Act.put, Fl.z1, Fl.z2, Fl.z3]
            refine Fl.take (some 28) (v := .pointer (some ⟨b, o + ((i : Int) - 1).toNat * 20, none⟩)) rfl rfl (Or.inl ⟨by rfl, fun _ _ => by first | rfl | (go_simp; done) | (go_simp; rfl) | (go_simp; omega)⟩) ?_
            simp only [Act.put, Fl.z1, Fl.z2, Fl.z3]
            refine Fl.take (some 29) (v := .agg (Ky.bs p.key)) rfl rfl (yieldsIf_load_mid (by rfl) 28 _ rfl b (o + ((i : Int) - 1).toNat * 20) rfl (Ky.bs p.key).toList _ (fun W1 hW1 => Ky.range_below (Ky.range_ekey HKp.out HCp.out) hW1.bel) Ky.hK rfl (by rw [Array.length_toList]; exact Ky.hKk HKp.out)) ?_
            simp only [Act.put, Fl.z1, Fl.z2, Fl.z3]
            refine Fl.take (some 30) (v := .pointer (some ⟨be, 0, none⟩)) rfl rfl (Or.inl ⟨by rfl, fun _ _ => by first | rfl | (go_simp; done) | (go_simp; rfl) | (go_simp; omega)⟩) ?_
            simp only [Act.put, Fl.z1, Fl.z2, Fl.z3]
            refine Fl.take (some 31) (v := .agg (Ky.bs x.key)) rfl rfl (Fl.ldP 0 0 (Ky.bs x.key) rfl (by rfl) _ _ rfl rfl (Ky.ec_key HKx.out) Ky.hK rfl (Ky.hKk HKx.out)) ?_
            simp only [Act.put, Fl.z1, Fl.z2, Fl.z3]
            refine Fl.call (some 32) Try.func68 (by kernel_rfl) rfl #[.agg (Ky.bs p.key), .agg (Ky.bs x.key)] rfl rfl rfl (by rfl) rfl (fun E W hE hi => ?_)
            refine (impl_compareKeys.calls p.key x.key cm W HKp.out HKx.out HL.out).mono ?_
            rintro e W' ⟨rfl, hb⟩
            refine Fl.keep (v := .int .i64 cm) hi hb ?_
            clear hi hb hE
            simp only [Act.put, Fl.z1, Fl.z2, Fl.z3]
            refine Fl.take (some 33) (v := .bool false) rfl rfl (Or.inl ⟨by rfl, fun _ _ => by first | rfl | (go_simp; done) | (go_simp; rfl) | (go_simp; omega)⟩) ?_
            simp only [Act.put, Fl.z1, Fl.z2, Fl.z3]
            refine Fl.take (some 34) (v := .bool false) rfl rfl (Or.inl ⟨by rfl, fun _ _ => by rfl⟩) ?_
            simp only [Act.put, Fl.z1, Fl.z2, Fl.z3]
            refine Fl.take (some 35) (v := .bool false) rfl rfl (Or.inl ⟨by rfl, fun _ _ => by rfl⟩) ?_
            simp only [Act.put, Fl.z1, Fl.z2, Fl.z3]
            refine Fl.fin0 ?_
            refine Fl.stopN (fun W hi => ?_)
            have HI2 := Lib.hid hi
            clear hi
            go_wp2
            go_roundg (n - (i + 1))
            case measure => have := HK.out; omega
            case rel => exact ⟨i + 1, by go_num, Lib.hid (by have := HK.out; omega), HG, Lib.hid (Fl.inv_drop (N := [_, _]) HI2.out)⟩
          · rw [if_neg (by rw [decide_eq_false hlf]; decide)] at hg
            obtain rfl := Option.some.inj hg
            clear hg
            go_upto_region 3 with (fail)
            refine Fl.startL [.take 0, .take 1, .take 2, .one 3, .take 4, .one 5] (by decide) HI.out ?_
            refine Fl.take (some 11) (v := .int .i64 (i : Int)) rfl rfl (Or.inl ⟨by rfl, fun _ _ => by rfl⟩) ?_
            simp only [Act.put, Fl.z1, Fl.z2, Fl.z3]
            refine Fl.take (some 12) (v := .pointer (some ⟨b, o + i * 20, none⟩)) rfl rfl (Or.inl ⟨by rfl, fun _ _ => by first | rfl | (go_simp; done) | (go_simp; rfl) | (go_simp; omega)⟩) ?_
            simp only [Act.put, Fl.z1, Fl.z2, Fl.z3]
            refine Fl.take (some 13) (v := .agg (Ky.ec x)) rfl rfl (yieldsIf_load_mid (by rfl) 91 _ rfl b (o + i * 20) rfl (Ky.ec x).toList _ (fun W1 hW1 => Ky.range_below HCx.out hW1.bel) Try.underlying91 rfl (by rw [Array.length_toList]; exact Ky.hEk HKx.out)) ?_
            simp only [Act.put, Fl.z1, Fl.z2, Fl.z3]
            refine Fl.var (N := 6) (cs := Ky.ec Ky.En0) (t := 91) ⟨_, rfl, rfl, fun _ => rfl, fun e w => by go_simp; rfl⟩ (fun be => ?_)
            simp only [Act.put, Fl.z1, Fl.z2, Fl.z3]
            refine Fl.take (some 5) (v := .int .i64 (i : Int)) rfl rfl (Or.inl ⟨by rfl, fun _ _ => by rfl⟩) ?_
            simp only [Act.put, Fl.z1, Fl.z2, Fl.z3]
            refine Fl.store 0 (Ky.ec x) rfl rfl rfl rfl _ _ _ rfl rfl rfl (by rfl) (by rw [Ky.ec_size HKx.out, Ky.ec_size Ky.key_0]) (Ky.hEk HKx.out) (Ky.ec_one x) ?_
            refine Fl.stop (fun W hi => ?_)
            replace HI := Lib.hid hi
            clear hi
            go_upto_region 4 with (fail)
            refine Fl.start [([],[]),([],[]),([1],[1]),([2],[2]),([0,3],[0,3]),([4],[4]),([5,4],[5]),([6],[6]),([7,6],[6,7]),([8,6,6],[6,8]),([9],[9]),([9],[9]),([11,9],[9,11]),([10,12,9],[9,10,12]),([13,9],[9,13]),([14,9],[9,14]),([9],[9]),([16,9],[9,16]),([15,17,9,9],[9,15,17]),([18,9],[9,18]),([9,19,6],[6,9,19]),([6,20],[6,20])] [] 23 [.take 0, .take 1, .take 2, .one 3, .one 4, .take 5, .take 6, .take 7, .take 8, .take 9, .take 10, .take 11, .take 12, .take 13, .take 14, .take 15, .take 16, .take 17, .one 18, .take 19, .take 20, .take 21] [] (by kernel_rfl) (by kernel_rfl) (by decide) (by decide) (by kernel_rfl) (by kernel_rfl) Fl.mk0 HI.out ?_
            refine Fl.take (some 14) (v := .agg #[.slice A0_0 l0_0.length c0_0]) rfl rfl (Fl.ld 1 rfl (by rfl) _ _ rfl rfl Try.underlying31 rfl (by kernel_rfl)) ?_
            simp only [Act.put, Fl.z1, Fl.z2, Fl.z3]
            refine Fl.take (some 15) (v := .pointer (some ⟨be, 16, none⟩)) rfl rfl (Or.inl ⟨by rfl, fun _ _ => by first | rfl | (go_simp; done) | (go_simp; rfl) | (go_simp; omega)⟩) ?_
            simp only [Act.put, Fl.z1, Fl.z2, Fl.z3]
            refine Fl.take (some 16) (v := .agg (Ky.wc x)) rfl rfl (Fl.ldP 0 16 (Ky.wc x) rfl (by rfl) _ _ rfl rfl (Ky.ec_win HKx.out) Try.underlying33 rfl (by kernel_rfl)) ?_
            simp only [Act.put, Fl.z1, Fl.z2, Fl.z3]
            refine Fl.lit (N := 17) (cs := Ky.wc x) (t := 33) (n := 1) rfl rfl (by rfl) (fun w => by first | (go_simp; done) | (go_simp; rfl)) (fun b1 => ?_)
            simp only [Act.put, Fl.z1, Fl.z2, Fl.z3]
            refine Fl.call (some 18) Try.func55 (by kernel_rfl) rfl #[.agg #[.slice A0_0 l0_0.length c0_0], .slice (some ⟨b1, 0, none⟩) 1 1] rfl rfl rfl (by rfl) rfl (fun E W hE hi => ?_)
            refine (impl_areOn.calls k _ _ l0_0 _ _ [(⟨x.a, x.s, x.l, x.c⟩ : S33)] true W (Kd.C_below HR0.out hi.bel) HC0.out (Fl.c_one (hi.blk 0 rfl) (k33_mk _ ⟨x.a, x.s, x.l, x.c⟩)) (Nat.le_refl _) HT.out).mono ?_
            rintro e W' ⟨rfl, hb⟩
            refine Fl.keep (v := .bool true) hi hb ?_
            clear hi hb hE
            simp only [Act.put, Fl.z1, Fl.z2, Fl.z3]
            refine Fl.take (some 19) (v := .bool false) rfl rfl (Or.inl ⟨by rfl, fun _ _ => by rfl⟩) ?_
            simp only [Act.put, Fl.z1, Fl.z2, Fl.z3]
            refine Fl.take (some 20) (v := .bool false) rfl rfl (Or.inl ⟨by rfl, fun _ _ => by rfl⟩) ?_
            simp only [Act.put, Fl.z1, Fl.z2, Fl.z3]
            refine Fl.take (some 21) (v := .int .i64 (i : Int)) rfl rfl (Or.inl ⟨by rfl, fun _ _ => by rfl⟩) ?_
            simp only [Act.put, Fl.z1, Fl.z2, Fl.z3]
            refine Fl.take (some 22) (v := .bool true) rfl rfl (Or.inl ⟨by rfl, fun _ _ => by first | rfl | (go_simp; done) | (go_simp; rfl) | (go_simp; omega)⟩) ?_
            simp only [Act.put, Fl.z1, Fl.z2, Fl.z3]
            refine Fl.take (some 23) (v := .bool true) rfl rfl (Or.inl ⟨by rfl, fun _ _ => by rfl⟩) ?_
            simp only [Act.put, Fl.z1, Fl.z2, Fl.z3]
            refine Fl.take (some 24) (v := .slice (some ⟨b, o, none⟩) n c1) rfl rfl (Or.inl ⟨by rfl, fun _ _ => by rfl⟩) ?_
            simp only [Act.put, Fl.z1, Fl.z2, Fl.z3]
            refine Fl.take (some 25) (v := .int .i64 (i : Int)) rfl rfl (Or.inl ⟨by rfl, fun _ _ => by rfl⟩) ?_
            simp only [Act.put, Fl.z1, Fl.z2, Fl.z3]
            refine Fl.take (some 26) (v := .int .i64 ((i : Int) - 1)) rfl rfl (Or.inl ⟨by rfl, fun _ _ => by first | rfl | (go_simp; done) | (go_simp; rfl) | (go_simp; omega)⟩) ?_
            simp only [Act.put, Fl.z1, Fl.z2, Fl.z3]
            refine Fl.take (some 27) (v := .pointer (some ⟨b, o + ((i : Int) - 1).toNat * 20, none⟩)) rfl rfl (Or.inl ⟨by rfl, fun _ _ => by first | rfl | (go_simp; done) | (go_simp; rfl) | (go_simp; omega)⟩) ?_
            simp only [Act.put, Fl.z1, Fl.z2, Fl.z3]
            refine Fl.take (some 28) (v := .pointer (some ⟨b, o + ((i : Int) - 1).toNat * 20, none⟩)) rfl rfl (Or.inl ⟨by rfl, fun _ _ => by first | rfl | (go_simp; done) | (go_simp; rfl) | (go_simp; omega)⟩) ?_
            simp only [Act.put, Fl.z1, Fl.z2, Fl.z3]
            refine Fl.take (some 29) (v := .agg (Ky.bs p.key)) rfl rfl (yieldsIf_load_mid (by rfl) 28 _ rfl b (o + ((i : Int) - 1).toNat * 20) rfl (Ky.bs p.key).toList _ (fun W1 hW1 => Ky.range_below (Ky.range_ekey HKp.out HCp.out) hW1.bel) Ky.hK rfl (by rw [Array.length_toList]; exact Ky.hKk HKp.out)) ?_
            simp only [Act.put, Fl.z1, Fl.z2, Fl.z3]
            refine Fl.take (some 30) (v := .pointer (some ⟨be, 0, none⟩)) rfl rfl (Or.inl ⟨by rfl, fun _ _ => by first | rfl | (go_simp; done) | (go_simp; rfl) | (go_simp; omega)⟩) ?_
            simp only [Act.put, Fl.z1, Fl.z2, Fl.z3]
            refine Fl.take (some 31) (v := .agg (Ky.bs x.key)) rfl rfl (Fl.ldP 0 0 (Ky.bs x.key) rfl (by rfl) _ _ rfl rfl (Ky.ec_key HKx.out) Ky.hK rfl (Ky.hKk HKx.out)) ?_
            simp only [Act.put, Fl.z1, Fl.z2, Fl.z3]
            refine Fl.call (some 32) Try.func68 (by kernel_rfl) rfl #[.agg (Ky.bs p.key), .agg (Ky.bs x.key)] rfl rfl rfl (by rfl) rfl (fun E W hE hi => ?_)
            refine (impl_compareKeys.calls p.key x.key cm W HKp.out HKx.out HL.out).mono ?_
            rintro e W' ⟨rfl, hb⟩
            refine Fl.keep (v := .int .i64 cm) hi hb ?_
            clear hi hb hE
            simp only [Act.put, Fl.z1, Fl.z2, Fl.z3]
            refine Fl.take (some 33) (v := .bool true) rfl rfl (Or.inl ⟨by rfl, fun _ _ => by first | rfl | (go_simp; done) | (go_simp; rfl) | (go_simp; omega)⟩) ?_
            simp only [Act.put, Fl.z1, Fl.z2, Fl.z3]
            refine Fl.take (some 34) (v := .bool true) rfl rfl (Or.inl ⟨by rfl, fun _ _ => by rfl⟩) ?_
            simp only [Act.put, Fl.z1, Fl.z2, Fl.z3]
            refine Fl.take (some 35) (v := .bool true) rfl rfl (Or.inl ⟨by rfl, fun _ _ => by rfl⟩) ?_
            simp only [Act.put, Fl.z1, Fl.z2, Fl.z3]
            refine Fl.fin0 ?_
            refine Fl.stopN (fun W hi => ?_)
            have HI2 := Lib.hid hi
            clear hi
            go_wp2
            go_ret
            exact ⟨rfl, HI2.out.bel⟩
    · have hg : impl_isTable.fin k l0_0 n = some r := by
        have hg := HG.out
        rw [List.drop_eq_nil_of_le (by have := HN.out; omega), impl_isTable.go] at hg
        exact hg
      clear HG
      have h4 : ¬ (i : Int) < (n : Int) := by omega
      rw [impl_isTable.fin] at hg
      obtain ⟨t, ht, hg⟩ := Option.bind_eq_some_iff.mp hg
      obtain rfl := Option.some.inj hg
      have HT := Lib.hid ht
      clear ht hg
      cases t with
      | true =>
        go_upto_region 7 with (fail)
        refine Fl.startL [.take 0, .one 1, .take 2, .take 3, .take 4, .take 5, .take 6, .take 7] (by decide) HI.out ?_
        refine Fl.take (some 37) (v := .agg #[.slice A0_0 l0_0.length c0_0]) rfl rfl (Fl.ld 0 rfl (by rfl) _ _ rfl rfl Try.underlying31 rfl (by kernel_rfl)) ?_
        simp only [Act.put, Fl.z1, Fl.z2, Fl.z3]
        refine Fl.call (some 38) Try.func62 (by kernel_rfl) rfl #[.agg #[.slice A0_0 l0_0.length c0_0]] rfl rfl rfl (by rfl) rfl (fun E W hE hi => ?_)
        refine (impl_IsMemory.calls k _ _ l0_0 true W (Kd.C_below HR0.out hi.bel) HC0.out HT.out).mono ?_
        rintro e W' ⟨rfl, hb⟩
        refine Fl.keep (v := .bool true) hi hb ?_
        clear hi hb hE
        simp only [Act.put, Fl.z1, Fl.z2, Fl.z3]
        refine Fl.take (some 39) (v := .bool true) rfl rfl (Or.inl ⟨by rfl, fun _ _ => by rfl⟩) ?_
        simp only [Act.put, Fl.z1, Fl.z2, Fl.z3]
        refine Fl.take (some 40) (v := .slice A1 n c1) rfl rfl (Or.inl ⟨by rfl, fun _ _ => by rfl⟩) ?_
        simp only [Act.put, Fl.z1, Fl.z2, Fl.z3]
        refine Fl.take (some 41) (v := .int .i64 (n : Int)) rfl rfl (Or.inl ⟨by rfl, fun _ _ => by first | rfl | (go_simp; done) | (go_simp; rfl) | (go_simp; omega)⟩) ?_
        simp only [Act.put, Fl.z1, Fl.z2, Fl.z3]
        refine Fl.take (some 42) (v := .bool (decide ((n : Int) ≤ 12))) rfl rfl (Or.inl ⟨by rfl, fun _ _ => by first | rfl | (go_simp; done) | (go_simp; rfl) | (go_simp; omega)⟩) ?_
        simp only [Act.put, Fl.z1, Fl.z2, Fl.z3]
        refine Fl.take (some 43) (v := .bool (decide ((n : Int) ≤ 12))) rfl rfl (Or.inl ⟨by rfl, fun _ _ => by rfl⟩) ?_
        simp only [Act.put, Fl.z1, Fl.z2, Fl.z3]
        refine Fl.take (some 4) (v := .bool (decide ((n : Int) ≤ 12))) rfl rfl (Or.inl ⟨by rfl, fun _ _ => by rfl⟩) ?_
        simp only [Act.put, Fl.z1, Fl.z2, Fl.z3]
        refine Fl.stop (fun W hi => ?_)
        replace HI := Lib.hid hi
        clear hi
        go_wp2
        go_ret
        exact ⟨rfl, HI.out.bel⟩
      | false =>
        go_upto_region 7 with (fail)
        refine Fl.startL [.take 0, .one 1, .take 2, .take 3, .take 4, .take 5, .take 6, .take 7] (by decide) HI.out ?_
        refine Fl.take (some 37) (v := .agg #[.slice A0_0 l0_0.length c0_0]) rfl rfl (Fl.ld 0 rfl (by rfl) _ _ rfl rfl Try.underlying31 rfl (by kernel_rfl)) ?_
        simp only [Act.put, Fl.z1, Fl.z2, Fl.z3]
        refine Fl.call (some 38) Try.func62 (by kernel_rfl) rfl #[.agg #[.slice A0_0 l0_0.length c0_0]] rfl rfl rfl (by rfl) rfl (fun E W hE hi => ?_)
        refine (impl_IsMemory.calls k _ _ l0_0 false W (Kd.C_below HR0.out hi.bel) HC0.out HT.out).mono ?_
        rintro e W' ⟨rfl, hb⟩
        refine Fl.keep (v := .bool false) hi hb ?_
        clear hi hb hE
        simp only [Act.put, Fl.z1, Fl.z2, Fl.z3]
        refine Fl.take (some 39) (v := .bool false) rfl rfl (Or.inl ⟨by rfl, fun _ _ => by rfl⟩) ?_
        simp only [Act.put, Fl.z1, Fl.z2, Fl.z3]
        refine Fl.take (some 40) (v := undef) rfl rfl (Or.inr ⟨by rfl, rfl⟩) ?_
        simp only [Act.put, Fl.z1, Fl.z2, Fl.z3]
        refine Fl.take (some 41) (v := undef) rfl rfl (Or.inr ⟨by rfl, rfl⟩) ?_
        simp only [Act.put, Fl.z1, Fl.z2, Fl.z3]
        refine Fl.take (some 42) (v := undef) rfl rfl (Or.inr ⟨by rfl, rfl⟩) ?_
        simp only [Act.put, Fl.z1, Fl.z2, Fl.z3]
        refine Fl.take (some 43) (v := .bool false) rfl rfl (Or.inl ⟨by rfl, fun _ _ => by rfl⟩) ?_
        simp only [Act.put, Fl.z1, Fl.z2, Fl.z3]
        refine Fl.take (some 4) (v := .bool false) rfl rfl (Or.inl ⟨by rfl, fun _ _ => by rfl⟩) ?_
        simp only [Act.put, Fl.z1, Fl.z2, Fl.z3]
        refine Fl.stop (fun W hi => ?_)
        replace HI := Lib.hid hi
        clear hi
        go_wp2
        go_ret
        exact ⟨rfl, HI.out.bel⟩

/-! ### impl_IsTable: function 22 (by hand) -/
def impl_IsTable.f (k : Nat) (l0_0 : List (List Int)) (l1 : (List Ky.En)) : Option (Bool × Bool) := (impl_IsMemory.f k l0_0).bind fun y0_0 => if y0_0 = true then (impl_isTable.f k l0_0 l1).bind fun y1_0 => if y1_0 = true then some (true, true) else some (false, true) else some (false, false)
theorem impl_IsTable.mono : ∀ x0 x1 k, LeO (impl_IsTable.f k x0 x1) (impl_IsTable.f (k + 1) x0 x1) := by
  intro x0 x1 k
  unfold impl_IsTable.f
  exact LeO.bind (by apply impl_IsMemory.mono) (fun _ => LeO.ite (LeO.bind (by apply impl_isTable.mono) (fun _ => LeO.ite (LeO.refl _) (LeO.refl _))) (LeO.refl _))
set_option maxHeartbeats 4000000 in
set_option maxRecDepth 100000 in
theorem impl_IsTable.calls (k : Nat) (A0_0 : Option Addr) (c0_0 : Nat) (l0_0 : List (List Int)) (A1 : Option Addr) (c1 : Nat) (l1 : (List Ky.En)) (r1 : Bool) (r2 : Bool) (w : World) (hr0_0 : Kd.C (Kd.slice 5 (Kd.int .u8)) w A0_0 l0_0.length l0_0) (hc0_0 : l0_0.length ≤ c0_0) (hr1 : Kd.C Ky.ke w A1 l1.length l1) (hc1 : l1.length ≤ c1) (h : impl_IsTable.f k l0_0 l1 = some (r1, r2)) :
    Calls Try.prog 22 #[.agg #[.slice A0_0 l0_0.length c0_0], .slice A1 l1.length c1] w fun e w' => e = .returned (.tuple #[.bool r1, .bool r2]) ∧ Below w.heap.size w w' := by
  have HR0_0 := Lib.hid hr0_0
  have HC0_0 := Lib.hid hc0_0
  clear hr0_0 hc0_0
  have HR1 := Lib.hid hr1
  have HC1 := Lib.hid hc1
  clear hr1 hc1
  obtain ⟨W0, hW⟩ : ∃ W, W = (w.alloc (.cells #[.slice A0_0 l0_0.length c0_0] 31)) := ⟨_, rfl⟩
  have HI : Hid (Lv.Inv w W0 [Lv.boxF (w.heap.size) #[.slice A0_0 l0_0.length c0_0] 31]) := by
    subst hW
    have := ((Lv.Inv.refl w).box #[.slice A0_0 l0_0.length c0_0] 31)
    exact Lib.hid (by simpa using this)
  unfold impl_IsTable.f at h
  replace h := Option.bind_eq_some_iff.mp h
  obtain ⟨y0_0, A0, h⟩ := h
  try dsimp only at h
  have HA0 := Lib.hid A0
  clear A0
  cases y0_0 with
  | true =>
    rw [if_pos rfl] at h
    replace h := Option.bind_eq_some_iff.mp h
    obtain ⟨y1_0, A1, h⟩ := h
    try dsimp only at h
    have HA1 := Lib.hid A1
    clear A1
    cases y1_0 with
    | true =>
      rw [if_pos rfl] at h
      simp only [Option.some.injEq, Prod.mk.injEq] at h
      obtain ⟨rfl, rfl⟩ := h
      go_enter Try.func22, Try.ntmps22
      go_upto_region 1 with (fail)
      rw [← hW]
      clear hW
      refine Fl.startL [.take 0, .one 1, .take 2] (by decide) HI.out ?_
      refine Fl.take (some 6) (v := .agg #[.slice A0_0 l0_0.length c0_0]) rfl rfl (Fl.ld 0 rfl (by rfl) _ _ rfl rfl Try.underlying31 rfl (by kernel_rfl)) ?_
      simp only [Act.put, Fl.z1, Fl.z2, Fl.z3]
      refine Fl.call (some 7) Try.func62 (by kernel_rfl) rfl #[.agg #[.slice A0_0 l0_0.length c0_0]] rfl rfl rfl (by rfl) rfl (fun E W hE hi => ?_)
      refine (impl_IsMemory.calls k _ _ l0_0 true W (Kd.C_below HR0_0.out hi.bel) HC0_0.out HA0.out).mono ?_
      rintro e W' ⟨rfl, hb⟩
      refine Fl.keep hi hb ?_
      clear hi hb hE
      simp only [Act.put, Fl.z1, Fl.z2, Fl.z3]
      refine Fl.take (some 8) (v := .bool false) rfl rfl (Or.inl ⟨by rfl, fun _ _ => by rfl⟩) ?_
      simp only [Act.put, Fl.z1, Fl.z2, Fl.z3]
      refine Fl.stop (fun W hi => ?_)
      replace HI := Lib.hid hi
      clear hi
      go_upto_region 3 with (fail)
      refine Fl.startL [.take 0, .take 1, .one 2, .take 3, .take 4] (by decide) HI.out ?_
      refine Fl.take (some 9) (v := .agg #[.slice A0_0 l0_0.length c0_0]) rfl rfl (Fl.ld 0 rfl (by rfl) _ _ rfl rfl Try.underlying31 rfl (by kernel_rfl)) ?_
      simp only [Act.put, Fl.z1, Fl.z2, Fl.z3]
      refine Fl.take (some 10) (v := .slice A1 l1.length c1) rfl rfl (Or.inl ⟨by rfl, fun _ _ => by rfl⟩) ?_
      simp only [Act.put, Fl.z1, Fl.z2, Fl.z3]
      refine Fl.call (some 11) Try.func63 (by kernel_rfl) rfl #[.agg #[.slice A0_0 l0_0.length c0_0], .slice A1 l1.length c1] rfl rfl rfl (by rfl) rfl (fun E W hE hi => ?_)
      refine (impl_isTable.calls k _ _ l0_0 _ _ l1 true W (Kd.C_below HR0_0.out hi.bel) HC0_0.out (Kd.C_below HR1.out hi.bel) HC1.out HA1.out).mono ?_
      rintro e W' ⟨rfl, hb⟩
      refine Fl.keep hi hb ?_
      clear hi hb hE
      simp only [Act.put, Fl.z1, Fl.z2, Fl.z3]
      refine Fl.take (some 4) (v := .bool true) rfl rfl (Or.inl ⟨by rfl, fun _ _ => by rfl⟩) ?_
      simp only [Act.put, Fl.z1, Fl.z2, Fl.z3]
      refine Fl.take (some 5) (v := .bool true) rfl rfl (Or.inl ⟨by rfl, fun _ _ => by rfl⟩) ?_
      simp only [Act.put, Fl.z1, Fl.z2, Fl.z3]
      refine Fl.stop (fun W hi => ?_)
      replace HI := Lib.hid hi
      clear hi
      go_wp2
      exact bodyPost_ret (v := .tuple #[.bool true, .bool true]) (results_list (rs := [.tmp 4, .tmp 5]) rfl (by simp) (.tmp (.tmp .nil))) rfl ⟨rfl, HI.out.bel⟩
    | false =>
      rw [if_neg (by decide)] at h
      simp only [Option.some.injEq, Prod.mk.injEq] at h
      obtain ⟨rfl, rfl⟩ := h
      go_enter Try.func22, Try.ntmps22
      go_upto_region 1 with (fail)
      rw [← hW]
      clear hW
      refine Fl.startL [.take 0, .one 1, .take 2] (by decide) HI.out ?_
      refine Fl.take (some 6) (v := .agg #[.slice A0_0 l0_0.length c0_0]) rfl rfl (Fl.ld 0 rfl (by rfl) _ _ rfl rfl Try.underlying31 rfl (by kernel_rfl)) ?_
      simp only [Act.put, Fl.z1, Fl.z2, Fl.z3]
      refine Fl.call (some 7) Try.func62 (by kernel_rfl) rfl #[.agg #[.slice A0_0 l0_0.length c0_0]] rfl rfl rfl (by rfl) rfl (fun E W hE hi => ?_)
      refine (impl_IsMemory.calls k _ _ l0_0 true W (Kd.C_below HR0_0.out hi.bel) HC0_0.out HA0.out).mono ?_
      rintro e W' ⟨rfl, hb⟩
      refine Fl.keep hi hb ?_
      clear hi hb hE
      simp only [Act.put, Fl.z1, Fl.z2, Fl.z3]
      refine Fl.take (some 8) (v := .bool false) rfl rfl (Or.inl ⟨by rfl, fun _ _ => by rfl⟩) ?_
      simp only [Act.put, Fl.z1, Fl.z2, Fl.z3]
      refine Fl.stop (fun W hi => ?_)
      replace HI := Lib.hid hi
      clear hi
      go_upto_region 3 with (fail)
      refine Fl.startL [.take 0, .take 1, .one 2, .take 3, .take 4] (by decide) HI.out ?_
      refine Fl.take (some 9) (v := .agg #[.slice A0_0 l0_0.length c0_0]) rfl rfl (Fl.ld 0 rfl (by rfl) _ _ rfl rfl Try.underlying31 rfl (by kernel_rfl)) ?_
      simp only [Act.put, Fl.z1, Fl.z2, Fl.z3]
      refine Fl.take (some 10) (v := .slice A1 l1.length c1) rfl rfl (Or.inl ⟨by rfl, fun _ _ => by rfl⟩) ?_
      simp only [Act.put, Fl.z1, Fl.z2, Fl.z3]
      refine Fl.call (some 11) Try.func63 (by kernel_rfl) rfl #[.agg #[.slice A0_0 l0_0.length c0_0], .slice A1 l1.length c1] rfl rfl rfl (by rfl) rfl (fun E W hE hi => ?_)
      refine (impl_isTable.calls k _ _ l0_0 _ _ l1 false W (Kd.C_below HR0_0.out hi.bel) HC0_0.out (Kd.C_below HR1.out hi.bel) HC1.out HA1.out).mono ?_
      rintro e W' ⟨rfl, hb⟩
      refine Fl.keep hi hb ?_
      clear hi hb hE
      simp only [Act.put, Fl.z1, Fl.z2, Fl.z3]
      refine Fl.take (some 4) (v := .bool false) rfl rfl (Or.inl ⟨by rfl, fun _ _ => by rfl⟩) ?_
      simp only [Act.put, Fl.z1, Fl.z2, Fl.z3]
      refine Fl.take (some 5) (v := .bool true) rfl rfl (Or.inl ⟨by rfl, fun _ _ => by rfl⟩) ?_
      simp only [Act.put, Fl.z1, Fl.z2, Fl.z3]
      refine Fl.stop (fun W hi => ?_)
      replace HI := Lib.hid hi
      clear hi
      go_wp2
      exact bodyPost_ret (v := .tuple #[.bool false, .bool true]) (results_list (rs := [.tmp 4, .tmp 5]) rfl (by simp) (.tmp (.tmp .nil))) rfl ⟨rfl, HI.out.bel⟩
  | false =>
    rw [if_neg (by decide)] at h
    simp only [Option.some.injEq, Prod.mk.injEq] at h
    obtain ⟨rfl, rfl⟩ := h
    go_enter Try.func22, Try.ntmps22
    go_upto_region 1 with (fail)
    rw [← hW]
    clear hW
    refine Fl.startL [.take 0, .one 1, .take 2] (by decide) HI.out ?_
    refine Fl.take (some 6) (v := .agg #[.slice A0_0 l0_0.length c0_0]) rfl rfl (Fl.ld 0 rfl (by rfl) _ _ rfl rfl Try.underlying31 rfl (by kernel_rfl)) ?_
    simp only [Act.put, Fl.z1, Fl.z2, Fl.z3]
    refine Fl.call (some 7) Try.func62 (by kernel_rfl) rfl #[.agg #[.slice A0_0 l0_0.length c0_0]] rfl rfl rfl (by rfl) rfl (fun E W hE hi => ?_)
    refine (impl_IsMemory.calls k _ _ l0_0 false W (Kd.C_below HR0_0.out hi.bel) HC0_0.out HA0.out).mono ?_
    rintro e W' ⟨rfl, hb⟩
    refine Fl.keep hi hb ?_
    clear hi hb hE
    simp only [Act.put, Fl.z1, Fl.z2, Fl.z3]
    refine Fl.take (some 8) (v := .bool true) rfl rfl (Or.inl ⟨by rfl, fun _ _ => by rfl⟩) ?_
    simp only [Act.put, Fl.z1, Fl.z2, Fl.z3]
    refine Fl.stop (fun W hi => ?_)
    replace HI := Lib.hid hi
    clear hi
    go_upto_region 2 with (fail)
    refine Fl.startL [.take 0, .take 1] (by decide) HI.out ?_
    refine Fl.take (some 4) (v := .bool false) rfl rfl (Or.inl ⟨by rfl, fun _ _ => by rfl⟩) ?_
    simp only [Act.put, Fl.z1, Fl.z2, Fl.z3]
    refine Fl.take (some 5) (v := .bool false) rfl rfl (Or.inl ⟨by rfl, fun _ _ => by rfl⟩) ?_
    simp only [Act.put, Fl.z1, Fl.z2, Fl.z3]
    refine Fl.stop (fun W hi => ?_)
    replace HI := Lib.hid hi
    clear hi
    go_wp2
    exact bodyPost_ret (v := .tuple #[.bool false, .bool false]) (results_list (rs := [.tmp 4, .tmp 5]) rfl (by simp) (.tmp (.tmp .nil))) rfl ⟨rfl, HI.out.bel⟩

/-! ### laws_eqByteA16: function 17 (by hand) -/
def laws_eqByteA16.f (a0 : List Int) (a1 : List Int) : Option Bool := some (decide (a0 = a1))
theorem laws_eqByteA16.calls (a0 : List Int) (a1 : List Int) (r : Bool) (w : World) (hk0 : Ky.Key a0) (hk1 : Ky.Key a1) (h : laws_eqByteA16.f a0 a1 = some r) :
    Calls Try.prog 17 #[.agg (Ky.bs a0), .agg (Ky.bs a1)] w fun e w' => e = .returned (.bool r) ∧ Below w.heap.size w w' := by
  obtain rfl := Option.some.inj h
  exact Ky.eqKey a0 a1 hk0 hk1 w

open Go.Proofs.Ytldkbeccpheckaa.Cp
/-! ### laws_eqWindow: function 27 -/
def laws_eqWindow.f (a0_0 : Int) (a0_1 : Int) (a0_2 : Int) (a0_3 : Int) (a1_0 : Int) (a1_1 : Int) (a1_2 : Int) (a1_3 : Int) : Option (Bool) := if a0_0 = a1_0 then (if a0_1 = a1_1 then (if a0_2 = a1_2 then (if a0_3 = a1_3 then (some true) else (some false)) else (some false)) else (some false)) else (some false)
set_option maxHeartbeats 8000000 in
set_option maxRecDepth 100000 in
theorem laws_eqWindow.calls (a0_0 : Int) (a0_1 : Int) (a0_2 : Int) (a0_3 : Int) (a1_0 : Int) (a1_1 : Int) (a1_2 : Int) (a1_3 : Int) (r : Bool) (w : World) (h : laws_eqWindow.f a0_0 a0_1 a0_2 a0_3 a1_0 a1_1 a1_2 a1_3 = some r) :
  Calls Try.prog 27 #[.agg #[.int .i64 a0_0, .int .i64 a0_1, .int .i64 a0_2, .int .i64 a0_3], .agg #[.int .i64 a1_0, .int .i64 a1_1, .int .i64 a1_2, .int .i64 a1_3]] w fun e w' => e = .returned (.bool r) ∧ Below w.heap.size w w' := by
 have hu33 := Try.underlying33
 have HB := Aside0.mk (Below.refl w.heap.size w)
 have H : (if a0_0 = a1_0 then (if a0_1 = a1_1 then (if a0_2 = a1_2 then (if a0_3 = a1_3 then (some true) else (some false)) else (some false)) else (some false)) else (some false)) = some r := h
 clear h
 by_cases c3 : a0_0 = a1_0
 ·rw [if_pos c3] at H
  have c3b0 : (a0_0 == a1_0) = true := beq_iff_eq.mpr c3
  have c3b1 : (a0_0 != a1_0) = false := bne_eq_false_iff_eq.mpr c3
  clear c3
  by_cases c4 : a0_1 = a1_1
  ·rw [if_pos c4] at H
   have c4b0 : (a0_1 == a1_1) = true := beq_iff_eq.mpr c4
   have c4b1 : (a0_1 != a1_1) = false := bne_eq_false_iff_eq.mpr c4
   clear c4
   by_cases c5 : a0_2 = a1_2
   ·rw [if_pos c5] at H
    have c5b0 : (a0_2 == a1_2) = true := beq_iff_eq.mpr c5
    have c5b1 : (a0_2 != a1_2) = false := bne_eq_false_iff_eq.mpr c5
    clear c5
    by_cases c6 : a0_3 = a1_3
    ·rw [if_pos c6] at H
     have c6b0 : (a0_3 == a1_3) = true := beq_iff_eq.mpr c6
     have c6b1 : (a0_3 != a1_3) = false := bne_eq_false_iff_eq.mpr c6
     clear c6
     obtain rfl := Option.some.inj H
     go_enter Try.func27, Try.ntmps27
     go_wp2_with (first | ((with_reducible refine gate_dst (N := 2) rfl ?_); refine box_event ?hg (N := 2) ?hd (cs := #[.int .i64 a0_0, .int .i64 a0_1, .int .i64 a0_2, .int .i64 a0_3]) (t := 33) ?hr ?_; (case hd => rfl); (case hg => rfl); (case hr => first | (go_simp; done) | (go_simp; rfl)); intro gb158 hg w7 hbox hb; have BK158 := Aside0.mk (hbox); have GW158 := zge HB hg; have GE158 := zge HB hg; replace HB := zhs HB hb; clear hb hbox hg) | ((with_reducible refine gate_dst (N := 3) rfl ?_); refine box_event ?hg (N := 3) ?hd (cs := #[.int .i64 a1_0, .int .i64 a1_1, .int .i64 a1_2, .int .i64 a1_3]) (t := 33) ?hr ?_; (case hd => rfl); (case hg => rfl); (case hr => first | (go_simp; done) | (go_simp; rfl)); intro gb159 hg w8 hbox hb; have BK159 := Aside0.mk (hbox); have GW159 := zge HB hg; have GE159 := zge HB hg; have NB158_159 := znl BK158 hg; have NB159_158 := znr BK158 hg; replace BK158 := zb0 BK158 hb; replace HB := zhs HB hb; clear hb hbox hg; have hnb9 := NB158_159.out; have hnc9 := NB159_158.out; have hcz10_0 := zc0 BK158 0 rfl; have hcz10_1 := zc0 BK158 1 rfl; have hcz10_2 := zc0 BK158 2 rfl; have hcz10_3 := zc0 BK158 3 rfl; have hfz10_0 := blk_frozen BK158.out 0; have hfz10_1 := blk_frozen BK158.out 1; have hfz10_2 := blk_frozen BK158.out 2; have hfz10_3 := blk_frozen BK158.out 3; have hcz11_0 := zc0 BK159 0 rfl; have hcz11_1 := zc0 BK159 1 rfl; have hcz11_2 := zc0 BK159 2 rfl; have hcz11_3 := zc0 BK159 3 rfl; have hfz11_0 := blk_frozen BK159.out 0; have hfz11_1 := blk_frozen BK159.out 1; have hfz11_2 := blk_frozen BK159.out 2; have hfz11_3 := blk_frozen BK159.out 3))
     go_ret
     exact ⟨by first | rfl | (simp <;> rfl) | (simp [*] <;> rfl), by repeat (first | exact zh0 HB | refine below_set ?_ GE158.out | refine below_set ?_ GE159.out)⟩
    ·rw [if_neg c6] at H
     have c6b0 : (a0_3 == a1_3) = false := beq_eq_false_iff_ne.mpr c6
     have c6b1 : (a0_3 != a1_3) = true := bne_iff_ne.mpr c6
     obtain rfl := Option.some.inj H
     go_enter Try.func27, Try.ntmps27
     go_wp2_with (first | ((with_reducible refine gate_dst (N := 2) rfl ?_); refine box_event ?hg (N := 2) ?hd (cs := #[.int .i64 a0_0, .int .i64 a0_1, .int .i64 a0_2, .int .i64 a0_3]) (t := 33) ?hr ?_; (case hd => rfl); (case hg => rfl); (case hr => first | (go_simp; done) | (go_simp; rfl)); intro gb158 hg w12 hbox hb; have BK158 := Aside0.mk (hbox); have GW158 := zge HB hg; have GE158 := zge HB hg; replace HB := zhs HB hb; clear hb hbox hg) | ((with_reducible refine gate_dst (N := 3) rfl ?_); refine box_event ?hg (N := 3) ?hd (cs := #[.int .i64 a1_0, .int .i64 a1_1, .int .i64 a1_2, .int .i64 a1_3]) (t := 33) ?hr ?_; (case hd => rfl); (case hg => rfl); (case hr => first | (go_simp; done) | (go_simp; rfl)); intro gb159 hg w13 hbox hb; have BK159 := Aside0.mk (hbox); have GW159 := zge HB hg; have GE159 := zge HB hg; have NB158_159 := znl BK158 hg; have NB159_158 := znr BK158 hg; replace BK158 := zb0 BK158 hb; replace HB := zhs HB hb; clear hb hbox hg; have hnb14 := NB158_159.out; have hnc14 := NB159_158.out; have hcz15_0 := zc0 BK158 0 rfl; have hcz15_1 := zc0 BK158 1 rfl; have hcz15_2 := zc0 BK158 2 rfl; have hcz15_3 := zc0 BK158 3 rfl; have hfz15_0 := blk_frozen BK158.out 0; have hfz15_1 := blk_frozen BK158.out 1; have hfz15_2 := blk_frozen BK158.out 2; have hfz15_3 := blk_frozen BK158.out 3; have hcz16_0 := zc0 BK159 0 rfl; have hcz16_1 := zc0 BK159 1 rfl; have hcz16_2 := zc0 BK159 2 rfl; have hcz16_3 := zc0 BK159 3 rfl; have hfz16_0 := blk_frozen BK159.out 0; have hfz16_1 := blk_frozen BK159.out 1; have hfz16_2 := blk_frozen BK159.out 2; have hfz16_3 := blk_frozen BK159.out 3))
     go_ret
     exact ⟨by first | rfl | (simp <;> rfl) | (simp [*] <;> rfl), by repeat (first | exact zh0 HB | refine below_set ?_ GE158.out | refine below_set ?_ GE159.out)⟩
   ·rw [if_neg c5] at H
    have c5b0 : (a0_2 == a1_2) = false := beq_eq_false_iff_ne.mpr c5
    have c5b1 : (a0_2 != a1_2) = true := bne_iff_ne.mpr c5
    obtain rfl := Option.some.inj H
    go_enter Try.func27, Try.ntmps27
    go_wp2_with (first | ((with_reducible refine gate_dst (N := 2) rfl ?_); refine box_event ?hg (N := 2) ?hd (cs := #[.int .i64 a0_0, .int .i64 a0_1, .int .i64 a0_2, .int .i64 a0_3]) (t := 33) ?hr ?_; (case hd => rfl); (case hg => rfl); (case hr => first | (go_simp; done) | (go_simp; rfl)); intro gb158 hg w17 hbox hb; have BK158 := Aside0.mk (hbox); have GW158 := zge HB hg; have GE158 := zge HB hg; replace HB := zhs HB hb; clear hb hbox hg) | ((with_reducible refine gate_dst (N := 3) rfl ?_); refine box_event ?hg (N := 3) ?hd (cs := #[.int .i64 a1_0, .int .i64 a1_1, .int .i64 a1_2, .int .i64 a1_3]) (t := 33) ?hr ?_; (case hd => rfl); (case hg => rfl); (case hr => first | (go_simp; done) | (go_simp; rfl)); intro gb159 hg w18 hbox hb; have BK159 := Aside0.mk (hbox); have GW159 := zge HB hg; have GE159 := zge HB hg; have NB158_159 := znl BK158 hg; have NB159_158 := znr BK158 hg; replace BK158 := zb0 BK158 hb; replace HB := zhs HB hb; clear hb hbox hg; have hnb19 := NB158_159.out; have hnc19 := NB159_158.out; have hcz20_0 := zc0 BK158 0 rfl; have hcz20_1 := zc0 BK158 1 rfl; have hcz20_2 := zc0 BK158 2 rfl; have hcz20_3 := zc0 BK158 3 rfl; have hfz20_0 := blk_frozen BK158.out 0; have hfz20_1 := blk_frozen BK158.out 1; have hfz20_2 := blk_frozen BK158.out 2; have hfz20_3 := blk_frozen BK158.out 3; have hcz21_0 := zc0 BK159 0 rfl; have hcz21_1 := zc0 BK159 1 rfl; have hcz21_2 := zc0 BK159 2 rfl; have hcz21_3 := zc0 BK159 3 rfl; have hfz21_0 := blk_frozen BK159.out 0; have hfz21_1 := blk_frozen BK159.out 1; have hfz21_2 := blk_frozen BK159.out 2; have hfz21_3 := blk_frozen BK159.out 3))
    go_ret
    exact ⟨by first | rfl | (simp <;> rfl) | (simp [*] <;> rfl), by repeat (first | exact zh0 HB | refine below_set ?_ GE158.out | refine below_set ?_ GE159.out)⟩
  ·rw [if_neg c4] at H
   have c4b0 : (a0_1 == a1_1) = false := beq_eq_false_iff_ne.mpr c4
   have c4b1 : (a0_1 != a1_1) = true := bne_iff_ne.mpr c4
   obtain rfl := Option.some.inj H
   go_enter Try.func27, Try.ntmps27
   go_wp2_with (first | ((with_reducible refine gate_dst (N := 2) rfl ?_); refine box_event ?hg (N := 2) ?hd (cs := #[.int .i64 a0_0, .int .i64 a0_1, .int .i64 a0_2, .int .i64 a0_3]) (t := 33) ?hr ?_; (case hd => rfl); (case hg => rfl); (case hr => first | (go_simp; done) | (go_simp; rfl)); intro gb158 hg w22 hbox hb; have BK158 := Aside0.mk (hbox); have GW158 := zge HB hg; have GE158 := zge HB hg; replace HB := zhs HB hb; clear hb hbox hg) | ((with_reducible refine gate_dst (N := 3) rfl ?_); refine box_event ?hg (N := 3) ?hd (cs := #[.int .i64 a1_0, .int .i64 a1_1, .int .i64 a1_2, .int .i64 a1_3]) (t := 33) ?hr ?_; (case hd => rfl); (case hg => rfl); (case hr => first | (go_simp; done) | (go_simp; rfl)); intro gb159 hg w23 hbox hb; have BK159 := Aside0.mk (hbox); have GW159 := zge HB hg; have GE159 := zge HB hg; have NB158_159 := znl BK158 hg; have NB159_158 := znr BK158 hg; replace BK158 := zb0 BK158 hb; replace HB := zhs HB hb; clear hb hbox hg; have hnb24 := NB158_159.out; have hnc24 := NB159_158.out; have hcz25_0 := zc0 BK158 0 rfl; have hcz25_1 := zc0 BK158 1 rfl; have hcz25_2 := zc0 BK158 2 rfl; have hcz25_3 := zc0 BK158 3 rfl; have hfz25_0 := blk_frozen BK158.out 0; have hfz25_1 := blk_frozen BK158.out 1; have hfz25_2 := blk_frozen BK158.out 2; have hfz25_3 := blk_frozen BK158.out 3; have hcz26_0 := zc0 BK159 0 rfl; have hcz26_1 := zc0 BK159 1 rfl; have hcz26_2 := zc0 BK159 2 rfl; have hcz26_3 := zc0 BK159 3 rfl; have hfz26_0 := blk_frozen BK159.out 0; have hfz26_1 := blk_frozen BK159.out 1; have hfz26_2 := blk_frozen BK159.out 2; have hfz26_3 := blk_frozen BK159.out 3))
   go_ret
   exact ⟨by first | rfl | (simp <;> rfl) | (simp [*] <;> rfl), by repeat (first | exact zh0 HB | refine below_set ?_ GE158.out | refine below_set ?_ GE159.out)⟩
 ·rw [if_neg c3] at H
  have c3b0 : (a0_0 == a1_0) = false := beq_eq_false_iff_ne.mpr c3
  have c3b1 : (a0_0 != a1_0) = true := bne_iff_ne.mpr c3
  obtain rfl := Option.some.inj H
  go_enter Try.func27, Try.ntmps27
  go_wp2_with (first | ((with_reducible refine gate_dst (N := 2) rfl ?_); refine box_event ?hg (N := 2) ?hd (cs := #[.int .i64 a0_0, .int .i64 a0_1, .int .i64 a0_2, .int .i64 a0_3]) (t := 33) ?hr ?_; (case hd => rfl); (case hg => rfl); (case hr => first | (go_simp; done) | (go_simp; rfl)); intro gb158 hg w27 hbox hb; have BK158 := Aside0.mk (hbox); have GW158 := zge HB hg; have GE158 := zge HB hg; replace HB := zhs HB hb; clear hb hbox hg) | ((with_reducible refine gate_dst (N := 3) rfl ?_); refine box_event ?hg (N := 3) ?hd (cs := #[.int .i64 a1_0, .int .i64 a1_1, .int .i64 a1_2, .int .i64 a1_3]) (t := 33) ?hr ?_; (case hd => rfl); (case hg => rfl); (case hr => first | (go_simp; done) | (go_simp; rfl)); intro gb159 hg w28 hbox hb; have BK159 := Aside0.mk (hbox); have GW159 := zge HB hg; have GE159 := zge HB hg; have NB158_159 := znl BK158 hg; have NB159_158 := znr BK158 hg; replace BK158 := zb0 BK158 hb; replace HB := zhs HB hb; clear hb hbox hg; have hnb29 := NB158_159.out; have hnc29 := NB159_158.out; have hcz30_0 := zc0 BK158 0 rfl; have hcz30_1 := zc0 BK158 1 rfl; have hcz30_2 := zc0 BK158 2 rfl; have hcz30_3 := zc0 BK158 3 rfl; have hfz30_0 := blk_frozen BK158.out 0; have hfz30_1 := blk_frozen BK158.out 1; have hfz30_2 := blk_frozen BK158.out 2; have hfz30_3 := blk_frozen BK158.out 3; have hcz31_0 := zc0 BK159 0 rfl; have hcz31_1 := zc0 BK159 1 rfl; have hcz31_2 := zc0 BK159 2 rfl; have hcz31_3 := zc0 BK159 3 rfl; have hfz31_0 := blk_frozen BK159.out 0; have hfz31_1 := blk_frozen BK159.out 1; have hfz31_2 := blk_frozen BK159.out 2; have hfz31_3 := blk_frozen BK159.out 3))
  go_ret
  exact ⟨by first | rfl | (simp <;> rfl) | (simp [*] <;> rfl), by repeat (first | exact zh0 HB | refine below_set ?_ GE158.out | refine below_set ?_ GE159.out)⟩

/-! ### laws_eqEntry: function 64 (by hand) -/
def laws_eqEntry.f (x y : Ky.En) : Option Bool := if x.key = y.key then laws_eqWindow.f x.a x.s x.l x.c y.a y.s y.l y.c else some false
set_option maxHeartbeats 4000000 in
set_option maxRecDepth 100000 in
theorem laws_eqEntry.calls (x y : Ky.En) (r : Bool) (w : World) (hx : Ky.Key x.key) (hy : Ky.Key y.key) (h : laws_eqEntry.f x y = some r) :
    Calls Try.prog 64 #[.agg (Ky.ec x), .agg (Ky.ec y)] w fun e w' => e = .returned (.bool r) ∧ Below w.heap.size w w' := by
  obtain ⟨W0, hW⟩ : ∃ W, W = (w.alloc (.cells (Ky.ec x) 91)).alloc (.cells (Ky.ec y) 91) := ⟨_, rfl⟩
  have HI : Hid (Lv.Inv w W0 [Lv.boxF (w.heap.size + 1) (Ky.ec y) 91, Lv.boxF (w.heap.size) (Ky.ec x) 91]) := by
    subst hW
    have := ((Lv.Inv.refl w).box (Ky.ec x) 91).box (Ky.ec y) 91
    exact Lib.hid (by simpa using this)
  have HX := Lib.hid hx
  have HY := Lib.hid hy
  clear hx hy
  unfold laws_eqEntry.f at h
  by_cases hxy : x.key = y.key
  · rw [if_pos hxy] at h
    have HH := Lib.hid h
    have HQ := Lib.hid (show laws_eqByteA16.f x.key y.key = some true from congrArg some (decide_eq_true hxy))
    clear h hxy
    cases r with
    | true =>
      go_enter Try.func64, Try.ntmps64
      go_upto_region 1 with (fail)
      rw [← hW]
      clear hW
      refine Fl.startL [.take 0, .take 1, .take 2, .take 3, .one 4, .take 5] (by decide) HI.out ?_
      refine Fl.take (some 5) (v := .pointer (some ⟨w.heap.size, 0, none⟩)) rfl rfl (Or.inl ⟨by rfl, fun _ _ => by first | rfl | (go_simp; done) | (go_simp; rfl)⟩) ?_
      simp only [Act.put, Fl.z1, Fl.z2, Fl.z3]
      refine Fl.take (some 6) (v := .agg (Ky.bs x.key)) rfl rfl (Fl.ldP 1 0 (Ky.bs x.key) rfl (by rfl) _ _ rfl rfl (Ky.ec_key HX.out) Ky.hK rfl (Ky.hKk HX.out)) ?_
      simp only [Act.put, Fl.z1, Fl.z2, Fl.z3]
      refine Fl.take (some 7) (v := .pointer (some ⟨w.heap.size + 1, 0, none⟩)) rfl rfl (Or.inl ⟨by rfl, fun _ _ => by first | rfl | (go_simp; done) | (go_simp; rfl)⟩) ?_
      simp only [Act.put, Fl.z1, Fl.z2, Fl.z3]
      refine Fl.take (some 8) (v := .agg (Ky.bs y.key)) rfl rfl (Fl.ldP 0 0 (Ky.bs y.key) rfl (by rfl) _ _ rfl rfl (Ky.ec_key HY.out) Ky.hK rfl (Ky.hKk HY.out)) ?_
      simp only [Act.put, Fl.z1, Fl.z2, Fl.z3]
      refine Fl.call (some 9) Try.func17 (by kernel_rfl) rfl #[.agg (Ky.bs x.key), .agg (Ky.bs y.key)] rfl rfl rfl (by rfl) rfl (fun E W hE hi => ?_)
      refine (laws_eqByteA16.calls x.key y.key true W HX.out HY.out HQ.out).mono ?_
      rintro e W' ⟨rfl, hb⟩
      refine Fl.keep hi hb ?_
      clear hi hb hE
      simp only [Act.put, Fl.z1, Fl.z2, Fl.z3]
      refine Fl.take (some 10) (v := .bool (!true)) rfl rfl (Or.inl ⟨by rfl, fun _ _ => by rfl⟩) ?_
      simp only [Act.put, Fl.z1, Fl.z2, Fl.z3]
      refine Fl.stop (fun W hi => ?_)
      replace HI := Lib.hid hi
      clear hi
      go_upto_region 3 with (fail)
      refine Fl.startL [.take 0, .take 1, .take 2, .take 3, .one 4, .take 5] (by decide) HI.out ?_
      refine Fl.take (some 11) (v := .pointer (some ⟨w.heap.size, 16, none⟩)) rfl rfl (Or.inl ⟨by rfl, fun _ _ => by first | rfl | (go_simp; done) | (go_simp; rfl)⟩) ?_
      simp only [Act.put, Fl.z1, Fl.z2, Fl.z3]
      refine Fl.take (some 12) (v := .agg (Ky.wc x)) rfl rfl (Fl.ldP 1 16 (Ky.wc x) rfl (by rfl) _ _ rfl rfl (Ky.ec_win HX.out) Try.underlying33 rfl (by kernel_rfl)) ?_
      simp only [Act.put, Fl.z1, Fl.z2, Fl.z3]
      refine Fl.take (some 13) (v := .pointer (some ⟨w.heap.size + 1, 16, none⟩)) rfl rfl (Or.inl ⟨by rfl, fun _ _ => by first | rfl | (go_simp; done) | (go_simp; rfl)⟩) ?_
      simp only [Act.put, Fl.z1, Fl.z2, Fl.z3]
      refine Fl.take (some 14) (v := .agg (Ky.wc y)) rfl rfl (Fl.ldP 0 16 (Ky.wc y) rfl (by rfl) _ _ rfl rfl (Ky.ec_win HY.out) Try.underlying33 rfl (by kernel_rfl)) ?_
      simp only [Act.put, Fl.z1, Fl.z2, Fl.z3]
      refine Fl.call (some 15) Try.func27 (by kernel_rfl) rfl #[.agg (Ky.wc x), .agg (Ky.wc y)] rfl rfl rfl (by rfl) rfl (fun E W hE hi => ?_)
      refine (laws_eqWindow.calls x.a x.s x.l x.c y.a y.s y.l y.c true W HH.out).mono ?_
      rintro e W' ⟨rfl, hb⟩
      refine Fl.keep hi hb ?_
      clear hi hb hE
      simp only [Act.put, Fl.z1, Fl.z2, Fl.z3]
      refine Fl.take (some 16) (v := .bool (!true)) rfl rfl (Or.inl ⟨by rfl, fun _ _ => by rfl⟩) ?_
      simp only [Act.put, Fl.z1, Fl.z2, Fl.z3]
      refine Fl.stop (fun W hi => ?_)
      replace HI := Lib.hid hi
      clear hi
      go_wp2
      go_ret
      exact ⟨rfl, HI.out.bel⟩
    | false =>
      go_enter Try.func64, Try.ntmps64
      go_upto_region 1 with (fail)
      rw [← hW]
      clear hW
      refine Fl.startL [.take 0, .take 1, .take 2, .take 3, .one 4, .take 5] (by decide) HI.out ?_
      refine Fl.take (some 5) (v := .pointer (some ⟨w.heap.size, 0, none⟩)) rfl rfl (Or.inl ⟨by rfl, fun _ _ => by first | rfl | (go_simp; done) | (go_simp; rfl)⟩) ?_
      simp only [Act.put, Fl.z1, Fl.z2, Fl.z3]
      refine Fl.take (some 6) (v := .agg (Ky.bs x.key)) rfl rfl (Fl.ldP 1 0 (Ky.bs x.key) rfl (by rfl) _ _ rfl rfl (Ky.ec_key HX.out) Ky.hK rfl (Ky.hKk HX.out)) ?_
      simp only [Act.put, Fl.z1, Fl.z2, Fl.z3]
      refine Fl.take (some 7) (v := .pointer (some ⟨w.heap.size + 1, 0, none⟩)) rfl rfl (Or.inl ⟨by rfl, fun _ _ => by first | rfl | (go_simp; done) | (go_simp; rfl)⟩) ?_
      simp only [Act.put, Fl.z1, Fl.z2, Fl.z3]
      refine Fl.take (some 8) (v := .agg (Ky.bs y.key)) rfl rfl (Fl.ldP 0 0 (Ky.bs y.key) rfl (by rfl) _ _ rfl rfl (Ky.ec_key HY.out) Ky.hK rfl (Ky.hKk HY.out)) ?_
      simp only [Act.put, Fl.z1, Fl.z2, Fl.z3]
      refine Fl.call (some 9) Try.func17 (by kernel_rfl) rfl #[.agg (Ky.bs x.key), .agg (Ky.bs y.key)] rfl rfl rfl (by rfl) rfl (fun E W hE hi => ?_)
      refine (laws_eqByteA16.calls x.key y.key true W HX.out HY.out HQ.out).mono ?_
      rintro e W' ⟨rfl, hb⟩
      refine Fl.keep hi hb ?_
      clear hi hb hE
      simp only [Act.put, Fl.z1, Fl.z2, Fl.z3]
      refine Fl.take (some 10) (v := .bool (!true)) rfl rfl (Or.inl ⟨by rfl, fun _ _ => by rfl⟩) ?_
      simp only [Act.put, Fl.z1, Fl.z2, Fl.z3]
      refine Fl.stop (fun W hi => ?_)
      replace HI := Lib.hid hi
      clear hi
      go_upto_region 3 with (fail)
      refine Fl.startL [.take 0, .take 1, .take 2, .take 3, .one 4, .take 5] (by decide) HI.out ?_
      refine Fl.take (some 11) (v := .pointer (some ⟨w.heap.size, 16, none⟩)) rfl rfl (Or.inl ⟨by rfl, fun _ _ => by first | rfl | (go_simp; done) | (go_simp; rfl)⟩) ?_
      simp only [Act.put, Fl.z1, Fl.z2, Fl.z3]
      refine Fl.take (some 12) (v := .agg (Ky.wc x)) rfl rfl (Fl.ldP 1 16 (Ky.wc x) rfl (by rfl) _ _ rfl rfl (Ky.ec_win HX.out) Try.underlying33 rfl (by kernel_rfl)) ?_
      simp only [Act.put, Fl.z1, Fl.z2, Fl.z3]
      refine Fl.take (some 13) (v := .pointer (some ⟨w.heap.size + 1, 16, none⟩)) rfl rfl (Or.inl ⟨by rfl, fun _ _ => by first | rfl | (go_simp; done) | (go_simp; rfl)⟩) ?_
      simp only [Act.put, Fl.z1, Fl.z2, Fl.z3]
      refine Fl.take (some 14) (v := .agg (Ky.wc y)) rfl rfl (Fl.ldP 0 16 (Ky.wc y) rfl (by rfl) _ _ rfl rfl (Ky.ec_win HY.out) Try.underlying33 rfl (by kernel_rfl)) ?_
      simp only [Act.put, Fl.z1, Fl.z2, Fl.z3]
      refine Fl.call (some 15) Try.func27 (by kernel_rfl) rfl #[.agg (Ky.wc x), .agg (Ky.wc y)] rfl rfl rfl (by rfl) rfl (fun E W hE hi => ?_)
      refine (laws_eqWindow.calls x.a x.s x.l x.c y.a y.s y.l y.c false W HH.out).mono ?_
      rintro e W' ⟨rfl, hb⟩
      refine Fl.keep hi hb ?_
      clear hi hb hE
      simp only [Act.put, Fl.z1, Fl.z2, Fl.z3]
      refine Fl.take (some 16) (v := .bool (!false)) rfl rfl (Or.inl ⟨by rfl, fun _ _ => by rfl⟩) ?_
      simp only [Act.put, Fl.z1, Fl.z2, Fl.z3]
      refine Fl.stop (fun W hi => ?_)
      replace HI := Lib.hid hi
      clear hi
      go_wp2
      go_ret
      exact ⟨rfl, HI.out.bel⟩
  · rw [if_neg hxy] at h
    obtain rfl := Option.some.inj h
    have HQ := Lib.hid (show laws_eqByteA16.f x.key y.key = some false from congrArg some (decide_eq_false hxy))
    clear h hxy
    go_enter Try.func64, Try.ntmps64
    go_upto_region 1 with (fail)
    rw [← hW]
    clear hW
    refine Fl.startL [.take 0, .take 1, .take 2, .take 3, .one 4, .take 5] (by decide) HI.out ?_
    refine Fl.take (some 5) (v := .pointer (some ⟨w.heap.size, 0, none⟩)) rfl rfl (Or.inl ⟨by rfl, fun _ _ => by first | rfl | (go_simp; done) | (go_simp; rfl)⟩) ?_
    simp only [Act.put, Fl.z1, Fl.z2, Fl.z3]
    refine Fl.take (some 6) (v := .agg (Ky.bs x.key)) rfl rfl (Fl.ldP 1 0 (Ky.bs x.key) rfl (by rfl) _ _ rfl rfl (Ky.ec_key HX.out) Ky.hK rfl (Ky.hKk HX.out)) ?_
    simp only [Act.put, Fl.z1, Fl.z2, Fl.z3]
    refine Fl.take (some 7) (v := .pointer (some ⟨w.heap.size + 1, 0, none⟩)) rfl rfl (Or.inl ⟨by rfl, fun _ _ => by first | rfl | (go_simp; done) | (go_simp; rfl)⟩) ?_
    simp only [Act.put, Fl.z1, Fl.z2, Fl.z3]
    refine Fl.take (some 8) (v := .agg (Ky.bs y.key)) rfl rfl (Fl.ldP 0 0 (Ky.bs y.key) rfl (by rfl) _ _ rfl rfl (Ky.ec_key HY.out) Ky.hK rfl (Ky.hKk HY.out)) ?_
    simp only [Act.put, Fl.z1, Fl.z2, Fl.z3]
    refine Fl.call (some 9) Try.func17 (by kernel_rfl) rfl #[.agg (Ky.bs x.key), .agg (Ky.bs y.key)] rfl rfl rfl (by rfl) rfl (fun E W hE hi => ?_)
    refine (laws_eqByteA16.calls x.key y.key false W HX.out HY.out HQ.out).mono ?_
    rintro e W' ⟨rfl, hb⟩
    refine Fl.keep hi hb ?_
    clear hi hb hE
    simp only [Act.put, Fl.z1, Fl.z2, Fl.z3]
    refine Fl.take (some 10) (v := .bool (!false)) rfl rfl (Or.inl ⟨by rfl, fun _ _ => by rfl⟩) ?_
    simp only [Act.put, Fl.z1, Fl.z2, Fl.z3]
    refine Fl.stop (fun W hi => ?_)
    replace HI := Lib.hid hi
    clear hi
    go_wp2
    go_ret
    exact ⟨rfl, HI.out.bel⟩

/-! ### laws_eqEntryS: function 23 (by hand) -/
def laws_eqEntryS.go : List Ky.En → List Ky.En → Option Bool
  | x :: xs, y :: ys => (laws_eqEntry.f x y).bind fun t => if t = true then laws_eqEntryS.go xs ys else some false
  | _, _ => some true
def laws_eqEntryS.f (l0 : List Ky.En) (l1 : List Ky.En) : Option Bool := if l0.length ≤ 1048576 then (if l0.length = l1.length then laws_eqEntryS.go l0 l1 else some false) else none
set_option maxHeartbeats 4000000 in
set_option maxRecDepth 100000 in
theorem laws_eqEntryS.calls (A0 : Option Addr) (c0 : Nat) (l0 : List Ky.En) (A1 : Option Addr) (c1 : Nat) (l1 : List Ky.En) (r : Bool) (w : World) (hr0 : Kd.C Ky.ke w A0 l0.length l0) (hc0 : l0.length ≤ c0) (hr1 : Kd.C Ky.ke w A1 l1.length l1) (hc1 : l1.length ≤ c1) (h : laws_eqEntryS.f l0 l1 = some r) :
    Calls Try.prog 23 #[.slice A0 l0.length c0, .slice A1 l1.length c1] w fun e w' => e = .returned (.bool r) ∧ Below w.heap.size w w' := by
  have hm := hr0.2.1
  have HR0 := Lib.hid hr0
  have HR1 := Lib.hid hr1
  clear hr0 hc0 hr1 hc1
  unfold laws_eqEntryS.f at h
  obtain ⟨hle, h⟩ := Ky.of_condO h
  clear hm
  obtain ⟨n, hn⟩ : ∃ n, n = l0.length := ⟨_, rfl⟩
  obtain ⟨n1, hn1⟩ : ∃ n, n = l1.length := ⟨_, rfl⟩
  have HM := Lib.hid (show n ≤ 1048576 by omega)
  by_cases hl : l0.length = l1.length
  · rw [if_pos hl] at h
    obtain rfl : n = n1 := by omega
    rw [← hn, ← hn1]
    have HN := Lib.hid hn
    have HN1 := Lib.hid hn1
    have HH := Lib.hid h
    clear hn hn1 h hl hle
    have HI : Hid (Lv.Inv w w []) := Lib.hid (Lv.Inv.refl w)
    go_enter Try.func23, Try.ntmps23
    go_wp2
    go_loopg [5] n (fun gg s5 wr => ∃ (i : Nat), s5 = .int .i64 i ∧ Hid (i ≤ n ∧ n - i ≤ gg) ∧ Hid (laws_eqEntryS.go (l0.drop i) (l1.drop i) = some r) ∧ Hid (Lv.Inv w wr []))
    case atStart => exact ⟨0, rfl, Lib.hid (by omega), HH, HI⟩
    case round =>
      clear HI HH
      obtain ⟨i, rfl, HK, HG, HI⟩ := hrel
      by_cases hlt : i < n
      · obtain ⟨b, o, hA, hrow⟩ := Ky.row_entry HR0.out (by have := HN.out; omega)
        obtain ⟨b2, o2, hA2, hrow2⟩ := Ky.row_entry HR1.out (by have := HN1.out; omega)
        obtain ⟨x, hx⟩ : ∃ x, l0[i]? = some x := ⟨_, List.getElem?_eq_getElem (by have := HN.out; omega)⟩
        obtain ⟨y, hy⟩ : ∃ y, l1[i]? = some y := ⟨_, List.getElem?_eq_getElem (by have := HN1.out; omega)⟩
        have HXK := Lib.hid (hrow i x hx).1
        have HXC := Lib.hid (hrow i x hx).2
        have HYK := Lib.hid (hrow2 i y hy).1
        have HYC := Lib.hid (hrow2 i y hy).2
        have hg := HG.out
        obtain ⟨hxl, hxe⟩ := List.getElem?_eq_some_iff.1 hx
        obtain ⟨hyl, hye⟩ := List.getElem?_eq_some_iff.1 hy
        rw [List.drop_eq_getElem_cons hxl, List.drop_eq_getElem_cons hyl, hxe, hye, laws_eqEntryS.go] at hg
        obtain ⟨t, ht, hg⟩ := Option.bind_eq_some_iff.mp hg
        have HT := Lib.hid ht
        clear hrow hrow2 hx hy hxl hyl hxe hye ht HG
        subst hA
        subst hA2
        have k0 : (0 : Int) ≤ (i : Int) := by omega
        have k1 : (i : Int) < (n : Int) := by omega
        have k2 : decide ((i : Int) < (n : Int)) = true := decide_eq_true k1
        have k3 : ((n : Int)).toNat ≤ 1048576 := by have := HM.out; omega
        cases t with
        | true =>
          rw [if_pos rfl] at hg
          have HG := Lib.hid hg
          clear hg
          go_upto_region 6 with (fail)
          refine Fl.start [([],[]),([],[]),([0,1],[0,1]),([2],[2]),([],[]),([],[]),([4,5],[4,5]),([6],[6]),([3,7],[3,7]),([8],[8])] [] 11 [.take 0, .take 1, .take 2, .take 3, .take 4, .take 5, .take 6, .take 7, .one 8, .take 9] [] (by kernel_rfl) (by kernel_rfl) (by decide) (by decide) (by kernel_rfl) (by kernel_rfl) Fl.mk0 HI.out ?_
          refine Fl.take (some 17) (v := .slice (some ⟨b, o, none⟩) n c0) rfl rfl (Or.inl ⟨by rfl, fun _ _ => by rfl⟩) ?_
          simp only [Act.put, Fl.z1, Fl.z2, Fl.z3]
          refine Fl.take (some 18) (v := .int .i64 i) rfl rfl (Or.inl ⟨by rfl, fun _ _ => by rfl⟩) ?_
          simp only [Act.put, Fl.z1, Fl.z2, Fl.z3]
          refine Fl.take (some 19) (v := .pointer (some ⟨b, o + i * 20, none⟩)) rfl rfl (Or.inl ⟨by rfl, fun _ _ => by go_simp⟩) ?_
          simp only [Act.put, Fl.z1, Fl.z2, Fl.z3]
          refine Fl.take (some 20) (v := .agg (Ky.ec x)) rfl rfl (yieldsIf_load_mid (by rfl) 91 _ rfl b (o + i * 20) rfl (Ky.ec x).toList _ (fun W1 hW1 => Ky.range_below HXC.out hW1.bel) Try.underlying91 rfl (by rw [Array.length_toList]; exact Ky.hEk HXK.out)) ?_
          simp only [Act.put, Fl.z1, Fl.z2, Fl.z3]
          refine Fl.take (some 21) (v := .slice (some ⟨b2, o2, none⟩) n c1) rfl rfl (Or.inl ⟨by rfl, fun _ _ => by rfl⟩) ?_
          simp only [Act.put, Fl.z1, Fl.z2, Fl.z3]
          refine Fl.take (some 22) (v := .int .i64 i) rfl rfl (Or.inl ⟨by rfl, fun _ _ => by rfl⟩) ?_
          simp only [Act.put, Fl.z1, Fl.z2, Fl.z3]
          refine Fl.take (some 23) (v := .pointer (some ⟨b2, o2 + i * 20, none⟩)) rfl rfl (Or.inl ⟨by rfl, fun _ _ => by go_simp⟩) ?_
          simp only [Act.put, Fl.z1, Fl.z2, Fl.z3]
          refine Fl.take (some 24) (v := .agg (Ky.ec y)) rfl rfl (yieldsIf_load_mid (by rfl) 91 _ rfl b2 (o2 + i * 20) rfl (Ky.ec y).toList _ (fun W1 hW1 => Ky.range_below HYC.out hW1.bel) Try.underlying91 rfl (by rw [Array.length_toList]; exact Ky.hEk HYK.out)) ?_
          simp only [Act.put, Fl.z1, Fl.z2, Fl.z3]
          refine Fl.call (some 25) Try.func64 (by kernel_rfl) rfl #[.agg (Ky.ec x), .agg (Ky.ec y)] rfl rfl rfl (by rfl) rfl (fun E W hE hi => ?_)
          refine (laws_eqEntry.calls x y true W HXK.out HYK.out HT.out).mono ?_
          rintro e W' ⟨rfl, hb⟩
          refine Fl.keep hi hb ?_
          clear hi hb hE
          simp only [Act.put, Fl.z1, Fl.z2, Fl.z3]
          refine Fl.take (some 26) (v := .bool (!true)) rfl rfl (Or.inl ⟨by rfl, fun _ _ => by rfl⟩) ?_
          simp only [Act.put, Fl.z1, Fl.z2, Fl.z3]
          refine Fl.fin0 ?_
          refine Fl.stopN (fun W hi => ?_)
          have HI2 := Lib.hid hi
          clear hi
          go_wp2
          go_roundg (n - (i + 1))
          case measure => have := HK.out; omega
          case rel => exact ⟨i + 1, by go_num, Lib.hid (by have := HK.out; omega), HG, HI2⟩
        | false =>
          rw [if_neg (by decide)] at hg
          obtain rfl := Option.some.inj hg
          clear hg
          go_upto_region 6 with (fail)
          refine Fl.start [([],[]),([],[]),([0,1],[0,1]),([2],[2]),([],[]),([],[]),([4,5],[4,5]),([6],[6]),([3,7],[3,7]),([8],[8])] [] 11 [.take 0, .take 1, .take 2, .take 3, .take 4, .take 5, .take 6, .take 7, .one 8, .take 9] [] (by kernel_rfl) (by kernel_rfl) (by decide) (by decide) (by kernel_rfl) (by kernel_rfl) Fl.mk0 HI.out ?_
          refine Fl.take (some 17) (v := .slice (some ⟨b, o, none⟩) n c0) rfl rfl (Or.inl ⟨by rfl, fun _ _ => by rfl⟩) ?_
          simp only [Act.put, Fl.z1, Fl.z2, Fl.z3]
          refine Fl.take (some 18) (v := .int .i64 i) rfl rfl (Or.inl ⟨by rfl, fun _ _ => by rfl⟩) ?_
          simp only [Act.put, Fl.z1, Fl.z2, Fl.z3]
          refine Fl.take (some 19) (v := .pointer (some ⟨b, o + i * 20, none⟩)) rfl rfl (Or.inl ⟨by rfl, fun _ _ => by go_simp⟩) ?_
          simp only [Act.put, Fl.z1, Fl.z2, Fl.z3]
          refine Fl.take (some 20) (v := .agg (Ky.ec x)) rfl rfl (yieldsIf_load_mid (by rfl) 91 _ rfl b (o + i * 20) rfl (Ky.ec x).toList _ (fun W1 hW1 => Ky.range_below HXC.out hW1.bel) Try.underlying91 rfl (by rw [Array.length_toList]; exact Ky.hEk HXK.out)) ?_
          simp only [Act.put, Fl.z1, Fl.z2, Fl.z3]
          refine Fl.take (some 21) (v := .slice (some ⟨b2, o2, none⟩) n c1) rfl rfl (Or.inl ⟨by rfl, fun _ _ => by rfl⟩) ?_
          simp only [Act.put, Fl.z1, Fl.z2, Fl.z3]
          refine Fl.take (some 22) (v := .int .i64 i) rfl rfl (Or.inl ⟨by rfl, fun _ _ => by rfl⟩) ?_
          simp only [Act.put, Fl.z1, Fl.z2, Fl.z3]
          refine Fl.take (some 23) (v := .pointer (some ⟨b2, o2 + i * 20, none⟩)) rfl rfl (Or.inl ⟨by rfl, fun _ _ => by go_simp⟩) ?_
          simp only [Act.put, Fl.z1, Fl.z2, Fl.z3]
          refine Fl.take (some 24) (v := .agg (Ky.ec y)) rfl rfl (yieldsIf_load_mid (by rfl) 91 _ rfl b2 (o2 + i * 20) rfl (Ky.ec y).toList _ (fun W1 hW1 => Ky.range_below HYC.out hW1.bel) Try.underlying91 rfl (by rw [Array.length_toList]; exact Ky.hEk HYK.out)) ?_
          simp only [Act.put, Fl.z1, Fl.z2, Fl.z3]
          refine Fl.call (some 25) Try.func64 (by kernel_rfl) rfl #[.agg (Ky.ec x), .agg (Ky.ec y)] rfl rfl rfl (by rfl) rfl (fun E W hE hi => ?_)
          refine (laws_eqEntry.calls x y false W HXK.out HYK.out HT.out).mono ?_
          rintro e W' ⟨rfl, hb⟩
          refine Fl.keep hi hb ?_
          clear hi hb hE
          simp only [Act.put, Fl.z1, Fl.z2, Fl.z3]
          refine Fl.take (some 26) (v := .bool (!false)) rfl rfl (Or.inl ⟨by rfl, fun _ _ => by rfl⟩) ?_
          simp only [Act.put, Fl.z1, Fl.z2, Fl.z3]
          refine Fl.fin0 ?_
          refine Fl.stopN (fun W hi => ?_)
          have HI2 := Lib.hid hi
          clear hi
          go_wp2
          go_ret
          exact ⟨rfl, HI2.out.bel⟩
      · have c0 : decide ((i : Int) < (n : Int)) = false := decide_eq_false (by omega)
        have hg := HG.out
        rw [List.drop_eq_nil_of_le (by have := HN.out; omega), laws_eqEntryS.go] at hg
        · obtain rfl := Option.some.inj hg
          clear hg HG
          go_wp2
          go_ret
          exact ⟨rfl, HI.out.bel⟩
        · intros; contradiction
  · rw [if_neg hl] at h
    obtain rfl := Option.some.inj h
    rw [← hn, ← hn1]
    have hne : ((n : Int) == (n1 : Int)) = false := by
      have : ¬ ((n : Int) = (n1 : Int)) := by omega
      simpa using this
    clear hn hn1 h hl hle
    go_enter Try.func23, Try.ntmps23
    go_wp2
    go_ret
    exact ⟨rfl, Below.refl _ _⟩

/-! ### laws_FnExactIsTable: function 4 (by hand) -/
def laws_FnExactIsTable.f (k : Nat) (l0_0 : List (List Int)) (l1 : (List Ky.En)) : Option Bool := (laws_szMemory.f k l0_0 1048576).bind fun x1 => if x1 < 0 then some true else (laws_szEntryS.f l1 x1).bind fun x3 => if x3 < 0 then some true else (laws_toMemory.f k l0_0).bind fun x5 => (laws_toEntryS.f l1).bind fun x8 => (spec_IsTable.f k x5 x8).bind fun y_x11 => (impl_IsTable.f k x5 x8).bind fun y_x17 => (laws_eqMemory.f k x5 x5).bind fun x21 => (laws_eqEntryS.f x8 x8).bind fun x24 => if x21 = true ∧ x24 = true ∧ y_x17.1 = y_x11.1 ∧ y_x17.2 = y_x11.2 then some true else none
theorem laws_FnExactIsTable.mono : ∀ l0_0 l1 k, LeO (laws_FnExactIsTable.f k l0_0 l1) (laws_FnExactIsTable.f (k + 1) l0_0 l1) := by
  intro l0_0 l1 k
  unfold laws_FnExactIsTable.f
  exact LeO.bind (by apply laws_szMemory.mono) (fun _ => LeO.ite (LeO.refl _) (LeO.bind (LeO.refl _) (fun _ => LeO.ite (LeO.refl _) (LeO.bind (by apply laws_toMemory.mono) (fun _ => LeO.bind (LeO.refl _) (fun _ => LeO.bind (by apply spec_IsTable.mono) (fun _ => LeO.bind (by apply impl_IsTable.mono) (fun _ => LeO.bind (by apply laws_eqMemory.mono) (fun _ => LeO.bind (LeO.refl _) (fun _ => LeO.refl _))))))))))
set_option maxHeartbeats 4000000 in
set_option maxRecDepth 100000 in
theorem laws_FnExactIsTable.calls (k : Nat) (A0_0 : Option Addr) (c0_0 : Nat) (l0_0 : List (List Int)) (A1 : Option Addr) (c1 : Nat) (l1 : (List Ky.En)) (r : Bool) (w : World) (hr0_0 : Kd.C (Kd.slice 5 (Kd.int .u8)) w A0_0 l0_0.length l0_0) (hc0_0 : l0_0.length ≤ c0_0) (hr1 : Kd.C Ky.ke w A1 l1.length l1) (hc1 : l1.length ≤ c1) (h : laws_FnExactIsTable.f k l0_0 l1 = some r) :
    Calls Try.prog 4 #[.agg #[.slice A0_0 l0_0.length c0_0], .slice A1 l1.length c1] w fun e w' => e = .returned (.bool r) ∧ Below w.heap.size w w' := by
  have HR0_0 := Lib.hid hr0_0
  have HC0_0 := Lib.hid hc0_0
  clear hr0_0 hc0_0
  have HR1 := Lib.hid hr1
  have HC1 := Lib.hid hc1
  clear hr1 hc1
  obtain ⟨W0, hW⟩ : ∃ W, W = (w.alloc (.cells #[.slice A0_0 l0_0.length c0_0] 24)) := ⟨_, rfl⟩
  have HI : Hid (Lv.Inv w W0 [Lv.boxF (w.heap.size) #[.slice A0_0 l0_0.length c0_0] 24]) := by
    subst hW
    have := ((Lv.Inv.refl w).box #[.slice A0_0 l0_0.length c0_0] 24)
    exact Lib.hid (by simpa using this)
  unfold laws_FnExactIsTable.f at h
  replace h := Option.bind_eq_some_iff.mp h
  obtain ⟨x1, A2, h⟩ := h
  try dsimp only at h
  have HA2 := Lib.hid A2
  clear A2
  have HH := Lib.hid h
  clear h
  go_enter Try.func4, Try.ntmps4
  go_upto_region 1 with (fail)
  rw [← hW]
  clear hW
  go_upto_region 2 with (fail)
  refine Fl.startL [.take 0, .take 1, .one 2, .take 3] (by decide) HI.out ?_
  refine Fl.take (some 12) (v := .agg #[.slice A0_0 l0_0.length c0_0]) rfl rfl (Fl.ld 0 rfl (by rfl) _ _ rfl rfl Try.underlying24 rfl (by kernel_rfl)) ?_
  simp only [Act.put, Fl.z1, Fl.z2, Fl.z3]
  refine Fl.take (some 13) (v := .int .i64 1048576) rfl rfl (Or.inl ⟨by rfl, fun _ _ => by rfl⟩) ?_
  simp only [Act.put, Fl.z1, Fl.z2, Fl.z3]
  refine Fl.call (some 14) Try.func12 (by kernel_rfl) rfl #[.agg #[.slice A0_0 l0_0.length c0_0], .int .i64 1048576] rfl rfl rfl (by rfl) rfl (fun E W hE hi => ?_)
  refine (laws_szMemory.calls k _ _ l0_0 1048576 x1 W (Kd.C_below HR0_0.out hi.bel) HC0_0.out HA2.out).mono ?_
  rintro e W' ⟨rfl, hb⟩
  refine Fl.keep hi hb ?_
  clear hi hb hE
  simp only [Act.put, Fl.z1, Fl.z2, Fl.z3]
  refine Fl.take (some 5) (v := .int .i64 x1) rfl rfl (Or.inl ⟨by rfl, fun _ _ => by rfl⟩) ?_
  simp only [Act.put, Fl.z1, Fl.z2, Fl.z3]
  refine Fl.stop (fun W hi => ?_)
  replace HI := Lib.hid hi
  clear hi
  try clear hn_
  have h := HH.out
  clear HH
  by_cases hn : x1 < 0
  · rw [if_pos hn] at h
    obtain rfl := Option.some.inj h
    clear h
    have hn_ := decide_eq_true hn
    go_wp2
    go_ret
    exact ⟨rfl, HI.out.bel⟩
  rw [if_neg hn] at h
  have hn_ := decide_eq_false hn
  clear hn
  replace h := Option.bind_eq_some_iff.mp h
  obtain ⟨x3, A4, h⟩ := h
  try dsimp only at h
  have HA4 := Lib.hid A4
  clear A4
  have HH := Lib.hid h
  clear h
  go_upto_region 5 with (fail)
  refine Fl.startL [.take 0, .take 1, .one 2, .take 3] (by decide) HI.out ?_
  refine Fl.take (some 17) (v := .slice A1 l1.length c1) rfl rfl (Or.inl ⟨by rfl, fun _ _ => by rfl⟩) ?_
  simp only [Act.put, Fl.z1, Fl.z2, Fl.z3]
  refine Fl.take (some 18) (v := .int .i64 x1) rfl rfl (Or.inl ⟨by rfl, fun _ _ => by rfl⟩) ?_
  simp only [Act.put, Fl.z1, Fl.z2, Fl.z3]
  refine Fl.call (some 19) Try.func19 (by kernel_rfl) rfl #[.slice A1 l1.length c1, .int .i64 x1] rfl rfl rfl (by rfl) rfl (fun E W hE hi => ?_)
  refine (laws_szEntryS.calls _ _ l1 x1 x3 W (Kd.C_below HR1.out hi.bel) HC1.out HA4.out).mono ?_
  rintro e W' ⟨rfl, hb⟩
  refine Fl.keep hi hb ?_
  clear hi hb hE
  simp only [Act.put, Fl.z1, Fl.z2, Fl.z3]
  refine Fl.take (some 5) (v := .int .i64 x3) rfl rfl (Or.inl ⟨by rfl, fun _ _ => by rfl⟩) ?_
  simp only [Act.put, Fl.z1, Fl.z2, Fl.z3]
  refine Fl.stop (fun W hi => ?_)
  replace HI := Lib.hid hi
  clear hi
  try clear hn_
  have h := HH.out
  clear HH
  by_cases hn : x3 < 0
  · rw [if_pos hn] at h
    obtain rfl := Option.some.inj h
    clear h
    have hn_ := decide_eq_true hn
    go_wp2
    go_ret
    exact ⟨rfl, HI.out.bel⟩
  rw [if_neg hn] at h
  have hn_ := decide_eq_false hn
  clear hn
  replace h := Option.bind_eq_some_iff.mp h
  obtain ⟨x5, A6, h⟩ := h
  try dsimp only at h
  have HA6 := Lib.hid A6
  clear A6
  replace h := Option.bind_eq_some_iff.mp h
  obtain ⟨x8, A9, h⟩ := h
  try dsimp only at h
  have HA9 := Lib.hid A9
  clear A9
  replace h := Option.bind_eq_some_iff.mp h
  obtain ⟨⟨x11, x12⟩, A13, h⟩ := h
  try dsimp only at h
  have HA13 := Lib.hid A13
  clear A13
  replace h := Option.bind_eq_some_iff.mp h
  obtain ⟨⟨x17, x18⟩, A19, h⟩ := h
  try dsimp only at h
  have HA19 := Lib.hid A19
  clear A19
  replace h := Option.bind_eq_some_iff.mp h
  obtain ⟨x21, A22, h⟩ := h
  try dsimp only at h
  have HA22 := Lib.hid A22
  clear A22
  replace h := Option.bind_eq_some_iff.mp h
  obtain ⟨x24, A25, h⟩ := h
  try dsimp only at h
  have HA25 := Lib.hid A25
  clear A25
  obtain ⟨hc, rfl⟩ := Lv.of_if h
  clear h
  obtain ⟨rfl, rfl, rfl, rfl⟩ := hc
  go_upto_region 8 with (fail)
  refine Fl.startL [.take 0, .one 1, .take 2, .one 3, .one 4, .take 5, .take 6, .take 7, .take 8, .take 9] (by decide) HI.out ?_
  refine Fl.take (some 23) (v := .agg #[.slice A0_0 l0_0.length c0_0]) rfl rfl (Fl.ld 0 rfl (by rfl) _ _ rfl rfl Try.underlying24 rfl (by kernel_rfl)) ?_
  simp only [Act.put, Fl.z1, Fl.z2, Fl.z3]
  refine Fl.call (some 24) Try.func14 (by kernel_rfl) rfl #[.agg #[.slice A0_0 l0_0.length c0_0]] rfl rfl rfl (by rfl) rfl (fun E W hE hi => ?_)
  refine (laws_toMemory.calls k _ _ l0_0 x5 W (Kd.C_below HR0_0.out hi.bel) HC0_0.out HA6.out).mono ?_
  rintro e W' ⟨v, rfl, hr, hb⟩
  obtain ⟨Aq7, cq7, rfl⟩ := Kd.S_slice hr
  refine Fl.addS hi (Kd.S_mono hr (fun _ _ => trivial)) hb ?_
  clear hr
  clear hi hb hE
  simp only [Act.put, Fl.z1, Fl.z2, Fl.z3]
  refine Fl.take (some 25) (v := .slice A1 l1.length c1) rfl rfl (Or.inl ⟨by rfl, fun _ _ => by rfl⟩) ?_
  simp only [Act.put, Fl.z1, Fl.z2, Fl.z3]
  refine Fl.call (some 26) Try.func21 (by kernel_rfl) rfl #[.slice A1 l1.length c1] rfl rfl rfl (by rfl) rfl (fun E W hE hi => ?_)
  refine (laws_toEntryS.calls _ _ l1 x8 W (Kd.C_below HR1.out hi.bel) HC1.out HA9.out).mono ?_
  rintro e W' ⟨v, rfl, hr, hb⟩
  obtain ⟨Aq10, cq10, rfl⟩ := Kd.R_slice hr
  refine Fl.addR hi (Kd.R_mono hr (fun _ _ => trivial)) hb ?_
  clear hr
  clear hi hb hE
  simp only [Act.put, Fl.z1, Fl.z2, Fl.z3]
  refine Fl.call (some 27) Try.func20 (by kernel_rfl) rfl #[.agg #[.slice Aq7 x5.length cq7], .slice Aq10 x8.length cq10] rfl rfl rfl (by rfl) rfl (fun E W hE hi => ?_)
  refine (spec_IsTable.calls k _ _ x5 _ _ x8 x17 x18 W (hi.cS 1 rfl) (hi.lS 1 rfl) (hi.cR 0 rfl) (hi.lR 0 rfl) HA13.out).mono ?_
  rintro e W' ⟨rfl, hb⟩
  refine Fl.keep hi hb ?_
  clear hi hb hE
  simp only [Act.put, Fl.z1, Fl.z2, Fl.z3]
  refine Fl.take (some 22) (v := .tuple #[.bool x17, .bool x18]) rfl rfl (Or.inl ⟨by rfl, fun _ _ => by rfl⟩) ?_
  simp only [Act.put, Fl.z1, Fl.z2, Fl.z3]
  refine Fl.take (some 28) (v := .bool x17) rfl rfl (Or.inl ⟨by rfl, fun _ _ => by rfl⟩) ?_
  simp only [Act.put, Fl.z1, Fl.z2, Fl.z3]
  refine Fl.take (some 29) (v := .bool x18) rfl rfl (Or.inl ⟨by rfl, fun _ _ => by rfl⟩) ?_
  simp only [Act.put, Fl.z1, Fl.z2, Fl.z3]
  refine Fl.take (some 6) (v := .bool x17) rfl rfl (Or.inl ⟨by rfl, fun _ _ => by rfl⟩) ?_
  simp only [Act.put, Fl.z1, Fl.z2, Fl.z3]
  refine Fl.take (some 7) (v := .bool x18) rfl rfl (Or.inl ⟨by rfl, fun _ _ => by rfl⟩) ?_
  simp only [Act.put, Fl.z1, Fl.z2, Fl.z3]
  refine Fl.stop (fun W hi => ?_)
  replace HI := Lib.hid hi
  clear hi
  try clear hn_
  go_upto_region 9 with (fail)
  refine Fl.startL [.take 0, .one 1, .one 2, .one 3] (by decide) HI.out ?_
  refine Fl.take (some 30) (v := .agg #[.slice A0_0 l0_0.length c0_0]) rfl rfl (Fl.ld 2 rfl (by rfl) _ _ rfl rfl Try.underlying24 rfl (by kernel_rfl)) ?_
  simp only [Act.put, Fl.z1, Fl.z2, Fl.z3]
  refine Fl.call (some 31) Try.func14 (by kernel_rfl) rfl #[.agg #[.slice A0_0 l0_0.length c0_0]] rfl rfl rfl (by rfl) rfl (fun E W hE hi => ?_)
  refine (laws_toMemory.calls k _ _ l0_0 x5 W (Kd.C_below HR0_0.out hi.bel) HC0_0.out HA6.out).mono ?_
  rintro e W' ⟨v, rfl, hr, hb⟩
  obtain ⟨Aq14, cq14, rfl⟩ := Kd.S_slice hr
  refine Fl.addS hi (Kd.S_mono hr (fun _ _ => trivial)) hb ?_
  clear hr
  clear hi hb hE
  simp only [Act.put, Fl.z1, Fl.z2, Fl.z3]
  refine Fl.var (N := 8) (cs := #[.slice none 0 0]) (t := 31) ⟨_, rfl, rfl, fun _ => rfl, fun e w => by go_simp⟩ (fun b15 => ?_)
  simp only [Act.put, Fl.z1, Fl.z2, Fl.z3]
  refine Fl.store 0 #[.slice Aq14 x5.length cq14] rfl rfl rfl rfl _ _ _ rfl rfl rfl (by rfl) rfl (by kernel_rfl) (by simp [Value.oneCell']) ?_
  refine Fl.stop (fun W hi => ?_)
  replace HI := Lib.hid hi
  clear hi
  try clear hn_
  go_upto_region 10 with (fail)
  refine Fl.startL [.take 0, .one 1, .take 2] (by decide) HI.out ?_
  refine Fl.take (some 32) (v := .slice A1 l1.length c1) rfl rfl (Or.inl ⟨by rfl, fun _ _ => by rfl⟩) ?_
  simp only [Act.put, Fl.z1, Fl.z2, Fl.z3]
  refine Fl.call (some 33) Try.func21 (by kernel_rfl) rfl #[.slice A1 l1.length c1] rfl rfl rfl (by rfl) rfl (fun E W hE hi => ?_)
  refine (laws_toEntryS.calls _ _ l1 x8 W (Kd.C_below HR1.out hi.bel) HC1.out HA9.out).mono ?_
  rintro e W' ⟨v, rfl, hr, hb⟩
  obtain ⟨Aq16, cq16, rfl⟩ := Kd.R_slice hr
  refine Fl.addR hi (Kd.R_mono hr (fun _ _ => trivial)) hb ?_
  clear hr
  clear hi hb hE
  simp only [Act.put, Fl.z1, Fl.z2, Fl.z3]
  refine Fl.take (some 9) (v := .slice Aq16 x8.length cq16) rfl rfl (Or.inl ⟨by rfl, fun _ _ => by rfl⟩) ?_
  simp only [Act.put, Fl.z1, Fl.z2, Fl.z3]
  refine Fl.stop (fun W hi => ?_)
  replace HI := Lib.hid hi
  clear hi
  try clear hn_
  go_upto_region 11 with (fail)
  refine Fl.startL [.take 0, .take 1, .one 2, .take 3, .take 4, .take 5, .take 6, .take 7] (by decide) HI.out ?_
  refine Fl.take (some 35) (v := .agg #[.slice Aq14 x5.length cq14]) rfl rfl (Fl.ld 1 rfl (by rfl) _ _ rfl rfl Try.underlying31 rfl (by kernel_rfl)) ?_
  simp only [Act.put, Fl.z1, Fl.z2, Fl.z3]
  refine Fl.take (some 36) (v := .slice Aq16 x8.length cq16) rfl rfl (Or.inl ⟨by rfl, fun _ _ => by rfl⟩) ?_
  simp only [Act.put, Fl.z1, Fl.z2, Fl.z3]
  refine Fl.call (some 37) Try.func22 (by kernel_rfl) rfl #[.agg #[.slice Aq14 x5.length cq14], .slice Aq16 x8.length cq16] rfl rfl rfl (by rfl) rfl (fun E W hE hi => ?_)
  refine (impl_IsTable.calls k _ _ x5 _ _ x8 x17 x18 W ((hE _ (Fl.inv_drop hi)).cS 2 rfl) ((hE _ (Fl.inv_drop hi)).lS 2 rfl) ((hE _ (Fl.inv_drop hi)).cR 0 rfl) ((hE _ (Fl.inv_drop hi)).lR 0 rfl) HA19.out).mono ?_
  rintro e W' ⟨rfl, hb⟩
  refine Fl.keep hi hb ?_
  clear hi hb hE
  simp only [Act.put, Fl.z1, Fl.z2, Fl.z3]
  refine Fl.take (some 34) (v := .tuple #[.bool x17, .bool x18]) rfl rfl (Or.inl ⟨by rfl, fun _ _ => by rfl⟩) ?_
  simp only [Act.put, Fl.z1, Fl.z2, Fl.z3]
  refine Fl.take (some 38) (v := .bool x17) rfl rfl (Or.inl ⟨by rfl, fun _ _ => by rfl⟩) ?_
  simp only [Act.put, Fl.z1, Fl.z2, Fl.z3]
  refine Fl.take (some 39) (v := .bool x18) rfl rfl (Or.inl ⟨by rfl, fun _ _ => by rfl⟩) ?_
  simp only [Act.put, Fl.z1, Fl.z2, Fl.z3]
  refine Fl.take (some 10) (v := .bool x17) rfl rfl (Or.inl ⟨by rfl, fun _ _ => by rfl⟩) ?_
  simp only [Act.put, Fl.z1, Fl.z2, Fl.z3]
  refine Fl.take (some 11) (v := .bool x18) rfl rfl (Or.inl ⟨by rfl, fun _ _ => by rfl⟩) ?_
  simp only [Act.put, Fl.z1, Fl.z2, Fl.z3]
  refine Fl.stop (fun W hi => ?_)
  replace HI := Lib.hid hi
  clear hi
  try clear hn_
  go_upto_region 12 with (fail)
  refine Fl.startL [.take 0, .take 1, .take 2, .take 3, .take 4, .take 5, .take 6, .take 7] (by decide) HI.out ?_
  refine Fl.take (some 40) (v := .bool x17) rfl rfl (Or.inl ⟨by rfl, fun _ _ => by rfl⟩) ?_
  simp only [Act.put, Fl.z1, Fl.z2, Fl.z3]
  refine Fl.take (some 41) (v := .bool x17) rfl rfl (Or.inl ⟨by rfl, fun _ _ => by rfl⟩) ?_
  simp only [Act.put, Fl.z1, Fl.z2, Fl.z3]
  refine Fl.take (some 42) (v := .bool false) rfl rfl (Or.inl ⟨by rfl, fun _ _ => by go_simp⟩) ?_
  simp only [Act.put, Fl.z1, Fl.z2, Fl.z3]
  refine Fl.take (some 43) (v := .bool false) rfl rfl (Or.inl ⟨by rfl, fun _ _ => by rfl⟩) ?_
  simp only [Act.put, Fl.z1, Fl.z2, Fl.z3]
  refine Fl.take (some 44) (v := .bool x18) rfl rfl (Or.inl ⟨by rfl, fun _ _ => by rfl⟩) ?_
  simp only [Act.put, Fl.z1, Fl.z2, Fl.z3]
  refine Fl.take (some 45) (v := .bool x18) rfl rfl (Or.inl ⟨by rfl, fun _ _ => by rfl⟩) ?_
  simp only [Act.put, Fl.z1, Fl.z2, Fl.z3]
  refine Fl.take (some 46) (v := .bool false) rfl rfl (Or.inl ⟨by rfl, fun _ _ => by go_simp⟩) ?_
  simp only [Act.put, Fl.z1, Fl.z2, Fl.z3]
  refine Fl.take (some 47) (v := .bool false) rfl rfl (Or.inl ⟨by rfl, fun _ _ => by rfl⟩) ?_
  simp only [Act.put, Fl.z1, Fl.z2, Fl.z3]
  refine Fl.stop (fun W hi => ?_)
  replace HI := Lib.hid hi
  clear hi
  try clear hn_
  go_upto_region 14 with (fail)
  refine Fl.start [([],[]),([],[]),([1],[1]),([0,2,2],[0,2]),([3],[3])] [] 6 [.take 0, .take 1, .one 2, .one 3, .take 4] [] (by kernel_rfl) (by kernel_rfl) (by decide) (by decide) (by kernel_rfl) (by kernel_rfl) Fl.mk0 HI.out ?_
  refine Fl.take (some 48) (v := .agg #[.slice Aq14 x5.length cq14]) rfl rfl (Fl.ld 1 rfl (by rfl) _ _ rfl rfl Try.underlying31 rfl (by kernel_rfl)) ?_
  simp only [Act.put, Fl.z1, Fl.z2, Fl.z3]
  refine Fl.take (some 49) (v := .agg #[.slice A0_0 l0_0.length c0_0]) rfl rfl (Fl.ld 5 rfl (by rfl) _ _ rfl rfl Try.underlying24 rfl (by kernel_rfl)) ?_
  simp only [Act.put, Fl.z1, Fl.z2, Fl.z3]
  refine Fl.call (some 50) Try.func14 (by kernel_rfl) rfl #[.agg #[.slice A0_0 l0_0.length c0_0]] rfl rfl rfl (by rfl) rfl (fun E W hE hi => ?_)
  refine (laws_toMemory.calls k _ _ l0_0 x5 W (Kd.C_below HR0_0.out hi.bel) HC0_0.out HA6.out).mono ?_
  rintro e W' ⟨v, rfl, hr, hb⟩
  obtain ⟨Aq20, cq20, rfl⟩ := Kd.S_slice hr
  refine Fl.addS hi (Kd.S_mono hr (fun _ _ => trivial)) hb ?_
  clear hr
  clear hi hb hE
  simp only [Act.put, Fl.z1, Fl.z2, Fl.z3]
  refine Fl.call (some 51) Try.func18 (by kernel_rfl) rfl #[.agg #[.slice Aq14 x5.length cq14], .agg #[.slice Aq20 x5.length cq20]] rfl rfl rfl (by rfl) rfl (fun E W hE hi => ?_)
  refine (laws_eqMemory.calls k _ _ x5 _ _ x5 true W ((hE _ (Fl.inv_drop hi)).cS 2 rfl) ((hE _ (Fl.inv_drop hi)).lS 2 rfl) (hi.cS 0 rfl) (hi.lS 0 rfl) HA22.out).mono ?_
  rintro e W' ⟨rfl, hb⟩
  refine Fl.keep hi hb ?_
  clear hi hb hE
  simp only [Act.put, Fl.z1, Fl.z2, Fl.z3]
  refine Fl.take (some 52) (v := .bool false) rfl rfl (Or.inl ⟨by rfl, fun _ _ => by rfl⟩) ?_
  simp only [Act.put, Fl.z1, Fl.z2, Fl.z3]
  refine Fl.fin0 ?_
  refine Fl.stopN (fun W hi => ?_)
  replace HI := Lib.hid hi
  clear hi
  try clear hn_
  go_upto_region 16 with (fail)
  refine Fl.startL [.take 0, .take 1, .one 2, .one 3, .take 4] (by decide) HI.out ?_
  refine Fl.take (some 53) (v := .slice Aq16 x8.length cq16) rfl rfl (Or.inl ⟨by rfl, fun _ _ => by rfl⟩) ?_
  simp only [Act.put, Fl.z1, Fl.z2, Fl.z3]
  refine Fl.take (some 54) (v := .slice A1 l1.length c1) rfl rfl (Or.inl ⟨by rfl, fun _ _ => by rfl⟩) ?_
  simp only [Act.put, Fl.z1, Fl.z2, Fl.z3]
  refine Fl.call (some 55) Try.func21 (by kernel_rfl) rfl #[.slice A1 l1.length c1] rfl rfl rfl (by rfl) rfl (fun E W hE hi => ?_)
  refine (laws_toEntryS.calls _ _ l1 x8 W (Kd.C_below HR1.out hi.bel) HC1.out HA9.out).mono ?_
  rintro e W' ⟨v, rfl, hr, hb⟩
  obtain ⟨Aq23, cq23, rfl⟩ := Kd.R_slice hr
  refine Fl.addR hi (Kd.R_mono hr (fun _ _ => trivial)) hb ?_
  clear hr
  clear hi hb hE
  simp only [Act.put, Fl.z1, Fl.z2, Fl.z3]
  refine Fl.call (some 56) Try.func23 (by kernel_rfl) rfl #[.slice Aq16 x8.length cq16, .slice Aq23 x8.length cq23] rfl rfl rfl (by rfl) rfl (fun E W hE hi => ?_)
  refine (laws_eqEntryS.calls _ _ x8 _ _ x8 true W ((hE _ (Fl.inv_drop hi)).cR 1 rfl) ((hE _ (Fl.inv_drop hi)).lR 1 rfl) (hi.cR 0 rfl) (hi.lR 0 rfl) HA25.out).mono ?_
  rintro e W' ⟨rfl, hb⟩
  refine Fl.keep hi hb ?_
  clear hi hb hE
  simp only [Act.put, Fl.z1, Fl.z2, Fl.z3]
  refine Fl.take (some 57) (v := .bool false) rfl rfl (Or.inl ⟨by rfl, fun _ _ => by rfl⟩) ?_
  simp only [Act.put, Fl.z1, Fl.z2, Fl.z3]
  refine Fl.stop (fun W hi => ?_)
  replace HI := Lib.hid hi
  clear hi
  try clear hn_
  go_wp2
  go_ret
  exact ⟨rfl, HI.out.bel⟩

end Go.Proofs.Ytldkbeccpheckaa.PFnExactIsTable
