/- What is proved here: steps of a chain that append a row to a row of the call's own, cut rows, write into a block that is known whole; a row of entries as a block and back. No condition beyond those that each theorem states. Written by this session. -/
import Derived.Test.YtkifenbcepicjaaKa
import Derived.ArgAppend
import Derived.Lib.SliceRun
namespace Go.Proofs.Ytkifenbcepicjaa.Fl
open Go.RowKit Go.Proofs.YtkifenbcepicjaaW.PrintWords Go.Proofs.YtkifenbcepicjaaW.PrintLast Go.Proofs.Ytkifenbcepicjaa.Lv Go.Proofs.Ytkifenbcepicjaa.Rg
set_option linter.unusedVariables false
set_option linter.unusedSimpArgs false
section
variable {P : Program} {ops : Array Oper} {Q : Exit → Act → World → Prop} {w0 : World} {Ps : List Fact} {Fin : List Fact → Act → Prop}
/-- A row is appended to a row of the call's own that stands first. -/
theorem appRows {α : Type} {d : Kd α} {e t bytes : Nat} {z : Value} {i : Nat} {r : List St} {F : List Fact} {a : Act} {o : Oper} {N : Tmp} {s x : Operand} {v : Value} {xs ys : List α} {A : Option Addr} {m c : Nat} (hKM : ∀ (W : World) (base : Nat) (p : α) (cs : List Value), d.K W p cs → d.M W base (fun _ => False) p cs)
    (h1 : ops[i]? = some o) (hd : o.dst = some N) (hw : Region.wanted o (yielded ops a.tmps) = true) (ho2 : o.op = .call { callee := .builtin .append, args := #[s, x], argTypes := #[t, t] })
    (ht : P.underlying t = some (.slice e)) (hinfo : (P.info? e).map (fun i => (i.zero, i.size, i.bytes)) = some (some z, d.sz, bytes)) (hz : z.cells.size = d.sz) (hs0 : 0 < d.sz) (hb0 : 0 < bytes)
    (hs : a.eval s = v) (hx : a.eval x = .slice A m c) (hl : (xs.length + m) * bytes ≤ 140737488355328) (hC : ∀ W, Below w0.heap.size w0 W → d.C W A m ys)
    (h : ∀ v1, CW P ops Q w0 Ps Fin r (rowF d e w0.heap.size v1 (xs ++ ys) :: F) (a.put (some N) v1)) : CW P ops Q w0 Ps Fin (.one i :: r) (rowF d e w0.heap.size v xs :: F) a := by
  intro E W hE hi
  obtain ⟨S, hS, hSb, hgrow⟩ := Inv.grow hi
  have key := Kd.R_append_rows_step (P := P) (ops := ops) (Q := Q) (o := o) (a := a) (Kc := fun a' W' => ∃ N', Inv w0 W' (N' ++ E) ∧ CW P ops Q w0 Ps Fin r N' a') (Rr := d.K W) (w0 := w0) (W := W) d w0.heap.size hw s x t e z bytes ho2 ht hinfo hz hs0 hb0 v xs ys A m c (fun k => S k ∨ W.heap.size ≤ k) (fun _ => False) hs hx (Kd.R_mono hS (fun k hk => .inl hk)) (hC W hi.bel) (fun p cs hk => hKM W _ p cs hk) (fun _ hk => hk.elim) (fun k hk => .inr hk) hi.bel hi.bel.size hl (by
    intro v1 w1 hr hb hg hblk
    rw [hd]
    exact ⟨rowF d e w0.heap.size v1 (xs ++ ys) :: F, hgrow w1 v1 (xs ++ ys) hb (Kept.of_grown hg (Kept.refl W S) (fun k hk => .inl (hS.1 k hk))) hr, h v1⟩)
  rw [if_pos hw] at key
  unfold wpOp
  simp only [h1, hw, if_true]
  exact .inl key
/-- A row of none is laid. -/
theorem lit0 {α : Type} (d : Kd α) {e i : Nat} {r : List St} {F : List Fact} {a : Act} {o : Oper} {N : Tmp} (h1 : ops[i]? = some o) (hd : o.dst = some N) (hw : Region.wanted o (yielded ops a.tmps) = true) (hrun : ∀ W, (execOp a.eval o).run P W = .ok (.value (.slice (some ⟨W.heap.size, 0, none⟩) 0 0)) (W.alloc (.cells #[] e)))
    (h : ∀ v1, CW P ops Q w0 Ps Fin r (rowF d e w0.heap.size v1 [] :: F) (a.put (some N) v1)) : CW P ops Q w0 Ps Fin (.one i :: r) F a := by
  intro E W hE hi
  have key := Kd.R_lit_step (P := P) (ops := ops) (Q := Q) (o := o) (a := a) (Kc := fun a' W' => ∃ N', Inv w0 W' (N' ++ E) ∧ CW P ops Q w0 Ps Fin r N' a') d (w0 := W) (W := W) W.heap.size e hw hd (xs := []) (inner := []) (ok := fun _ => True) (okp := fun _ => True) (hrun W) (Reps.none _ _) (fun _ hk => hk) trivial (Below.refl _ _) (Nat.le_refl _) (by simp) (by
    intro v1 w1 hr hb _ _
    rw [hd]
    exact ⟨rowF d e w0.heap.size v1 [] :: F, hi.row hr hb, h v1⟩)
  rw [if_pos hw] at key
  unfold wpOp
  simp only [h1, hw, if_true]
  exact .inl key
theorem yields_cut {S : World → Prop} {o : Oper} {a : Act} (hw : Region.wanted o (yielded ops a.tmps) = true) (t : TypeId) (x : Operand) (lo hi mx : Option Operand) (ho : o.op = .slice t x lo hi mx) {e : TypeId} (ht : P.underlying t = some (.slice e)) {v : Value} (h : ∀ W, (Instr.slice t (a.eval x) (lo.map a.eval) (hi.map a.eval) (mx.map a.eval)).run P W = .ok v W) : YieldsIf P ops S o v a := .inl ⟨hw, fun W _ => by
  have h1 : (Instr.sliceAt t (a.eval x) (lo.map a.eval) (hi.map a.eval) (mx.map a.eval)).run P W = .ok v W := by
    rw [← h W]
    simp [Instr.sliceAt, run_underlying ht]
  unfold execOp
  simp only [ho, Sem.run_bind, h1, Result.andThen_ok]
  rfl⟩
/-- Cells of a block that is known whole are written. -/
theorem inv_cells {W : World} {F E : List Fact} {g : Nat} {cs cs' : Array Value} {t : TypeId} (hinv : Inv w0 W (F ++ E)) (j off : Nat) (vs : List Value) (hj : F[j]? = some (boxF g cs t)) (hs : cs'.size = cs.size) (hc : ∀ k, k < cs.size → cs'[k]? = if off ≤ k ∧ k < off + vs.length then vs[k - off]? else cs[k]?) :
    Inv w0 (W.setCells g off vs) (F.set j (boxF g cs' t) ++ E) := by
  have hlt : j < F.length := (List.getElem?_eq_some_iff.1 hj).1
  have hj2 : (F ++ E)[j]? = some (boxF g cs t) := by rw [List.getElem?_append_left hlt]; exact hj
  obtain ⟨S, k1, k2, k3⟩ := hinv.write j hj2
  obtain ⟨hSg, hblk⟩ := k2.now
  obtain ⟨c, hc1, hc2, hc3⟩ := Ky.bsets vs off W cs hblk
  obtain rfl : c = cs' := by
    apply Array.ext_getElem?
    intro k
    by_cases hk : k < cs.size
    · rw [hc3 k hk, hc k hk]
    · rw [Array.getElem?_eq_none (by omega), Array.getElem?_eq_none (by omega)]
  have hk : Kept W (W.setCells g off vs) S := ⟨by rw [size_setCells]; exact Nat.le_refl _, fun k hk hn => by
    by_cases hkg : k = g
    · subst hkg; exact absurd hSg hn
    · exact World.heap_setCells_other W g off vs hk hkg⟩
  rw [← List.set_append_left _ _ hlt]
  have hg := k1 g hSg
  exact k3 _ _ (Ky.below_sets hinv.bel hg.1 _ _) hk (foot_box hSg hc1)
/-- An append with room: the block's cells are written. -/
theorem appRoom {i : Nat} {r : List St} {F F' : List Fact} {a : Act} {o : Oper} {N : Tmp} {s x : Operand} {e t sz : Nat} (j : Nat) {g n cap : Nat} {cs cs' : Array Value} (hj : F[j]? = some (boxF g cs e)) (hF : F' = F.set j (boxF g cs' e)) (h1 : ops[i]? = some o) (hd : o.dst = some N) (hw : Region.wanted o (yielded ops a.tmps) = true)
    (ho : o.op = .call { callee := .builtin .append, args := #[s, x], argTypes := #[t, t] }) (ht : P.underlying t = some (.slice e)) (hsz : (P.info? e).map (·.size) = some sz) (hs : a.eval s = .slice (some ⟨g, 0, none⟩) n cap) (src m c : Nat) (hx : a.eval x = .slice (some ⟨g, src, none⟩) m c)
    (news : List Value) (hn : news.length = m * sz) (hc : ∀ q u, news[q]? = some u → cs[src + q]? = some u) (h1c : ∀ u ∈ news, u.oneCell' = true) (hroom : n + m ≤ cap) (hfit : n * sz + news.length ≤ cs.size) (hsc : cs'.size = cs.size) (hcc : ∀ k, k < cs.size → cs'[k]? = if n * sz ≤ k ∧ k < n * sz + news.length then news[k - n * sz]? else cs[k]?)
    (h : CW P ops Q w0 Ps Fin r F' (a.put (some N) (.slice (some ⟨g, 0, none⟩) (n + m) cap))) : CW P ops Q w0 Ps Fin (.one i :: r) F a := by
  intro E W hE hinv
  have hlt : j < F.length := (List.getElem?_eq_some_iff.1 hj).1
  have hblk := hinv.blk j (by rw [List.getElem?_append_left hlt]; exact hj)
  obtain ⟨ie, hie, hz⟩ := Option.map_eq_some_iff.1 hsz
  subst hz
  have hrun := run_append_room_cells (P := P) W t o.type e ie ht hie g 0 n cap ⟨g, src, none⟩ m c news hn (fun q u hq => by rw [Go.Addr.add_mid, blk_cell hblk]; exact hc q u hq) h1c hroom
    (fun q hq => by rw [Nat.zero_add, blk_cell hblk, Array.getElem?_eq_getElem (by omega)]; rfl) (fun q hq => blk_frozen hblk _)
  rw [Nat.zero_add] at hrun
  unfold wpOp
  simp only [h1, hw, if_true]
  refine .inl ?_
  unfold Oper.wp execOp
  simp only [ho, resolve, invoke, builtin, Sem.run_bind, Sem.run_pure, Result.andThen_ok, List.map_toArray, List.map_cons, List.map_nil, hs, hx, hrun]
  show ∃ N', _
  rw [hd]
  refine ⟨F', ?_, h⟩
  rw [hF]
  exact inv_cells hinv j (n * ie.size) news hj hsc hcc
theorem zeros_one {z : Array Value} : (Builtin.zeroCells z 1).toList = z.toList := by
  apply List.ext_getElem
  · simp [Builtin.zeroCells]
  · intro i h1 h2
    have hi : i < z.size := by simpa using h2
    simp [Builtin.zeroCells, Nat.mod_eq_of_lt hi, hi]
/-- One element of a block is cleared. -/
theorem clear1 {i : Nat} {r : List St} {F F' : List Fact} {a : Act} {o : Oper} {s : Operand} {e t : Nat} (j : Nat) {g c off : Nat} {cs cs' : Array Value} {z : Array Value} (hj : F[j]? = some (boxF g cs e)) (hF : F' = F.set j (boxF g cs' e)) (h1 : ops[i]? = some o) (hd : o.dst = none) (hw : Region.wanted o (yielded ops a.tmps) = true)
    (ho : o.op = .call { callee := .builtin .clear, args := #[s], argTypes := #[t] }) (ht : P.underlying t = some (.slice e)) (hz : (P.info? e).map (·.zero) = some (some (.agg z))) (hz1 : z.all (·.oneCell') = true) (hs : a.eval s = .slice (some ⟨g, off, none⟩) 1 c) (hfit : off + z.size ≤ cs.size)
    (hsc : cs'.size = cs.size) (hcc : ∀ k, k < cs.size → cs'[k]? = if off ≤ k ∧ k < off + z.size then z[k - off]? else cs[k]?) (h : CW P ops Q w0 Ps Fin r F' a) : CW P ops Q w0 Ps Fin (.one i :: r) F a := by
  intro E W hE hinv
  have hlt : j < F.length := (List.getElem?_eq_some_iff.1 hj).1
  have hblk := hinv.blk j (by rw [List.getElem?_append_left hlt]; exact hj)
  obtain ⟨ie, hie, hzz⟩ := Option.map_eq_some_iff.1 hz
  have hzv : ∀ w, (zeroValue e).run P w = .ok (.agg z) w := fun w => by simp [zeroValue, typeInfo, hie, hzz]
  have hst := run_storeCells_cells (P := P) g off z.toList 0 W (fun q hq => by rw [Nat.add_zero, blk_cell hblk, Array.getElem?_eq_getElem (by rw [Array.length_toList] at hq; omega)]; rfl) (fun q hq => blk_frozen hblk _) (fun v hv => (Array.all_eq_true_iff_forall_mem.1 hz1) v (by simpa using hv))
  rw [Nat.add_zero] at hst
  have hrun : (Builtin.clear_ #[t] o.type #[.slice (some ⟨g, off, none⟩) 1 c]).run P W = .ok (.tuple #[]) (W.setCells g off z.toList) := by
    simp [Builtin.clear_, run_underlying ht, hzv, zeros_one, Value.cells, hst]
  unfold wpOp
  simp only [h1, hw, if_true]
  refine .inl ?_
  unfold Oper.wp execOp
  simp only [ho, resolve, invoke, builtin, Sem.run_bind, Sem.run_pure, Result.andThen_ok, List.map_toArray, List.map_cons, List.map_nil, hs, hrun]
  show ∃ N', _
  rw [hd]
  refine ⟨F', ?_, h⟩
  rw [hF]
  exact inv_cells hinv j off z.toList hj hsc (by simpa using hcc)
end
end Go.Proofs.Ytkifenbcepicjaa.Fl
namespace Go.Proofs.Ytkifenbcepicjaa.Ky
open Go.RowKit Go.Proofs.YtkifenbcepicjaaW.PrintWords Go.Proofs.Ytkifenbcepicjaa.Lv
set_option linter.unusedVariables false
set_option linter.unusedSimpArgs false
/-- A block holds the entries. -/
def Holds (xs : List En) (cs : Array Value) : Prop := ∀ i x, xs[i]? = some x → Key x.key ∧ ∀ j, j < 20 → cs[i * 20 + j]? = (ec x)[j]?
theorem unrow {w W : World} {Ps : List Fact} {e : Nat} {v : Value} {xs : List En} (h : Inv w W (rowF ke e w.heap.size v xs :: Ps)) (hp : 0 < xs.length) : ∃ g cap cs, v = .slice (some ⟨g, 0, none⟩) xs.length cap ∧ xs.length ≤ cap ∧ cap ≤ maxLen ∧ cs.size = cap * 20 ∧ Holds xs cs ∧ Inv w W (boxF g cs e :: Ps) := by
  obtain ⟨S, h1, h2, h3⟩ := h.live
  obtain ⟨hok, inner, ⟨hlen, hown⟩, hreps⟩ := h2.now
  rcases hown with ⟨_, h0⟩ | ⟨g, cap, cs, rfl, hg, hb, hn, hm, hsz, htake⟩
  · omega
  refine ⟨g, cap, cs, rfl, hn, hm, hsz, fun i x hx => ?_, ⟨h.bel, S, h1, foot_box (hok g rfl) hb, h3⟩⟩
  have hi := (List.getElem?_eq_some_iff.1 hx).1
  obtain ⟨k1, k2⟩ := ke_openM (hreps.2 i x hx)
  refine ⟨k1, fun j hj => ?_⟩
  have e1 : (ec x)[j]? = (ec x).toList[j]? := by rw [Array.getElem?_toList]
  rw [e1, ← k2, List.getElem?_take, if_pos (show j < ke.sz from hj), List.getElem?_drop, ← htake, List.getElem?_take, if_pos (show i * ke.sz + j < xs.length * ke.sz from (show i * 20 + j < xs.length * 20 by omega)), Array.getElem?_toList]
  rfl
theorem rerow {w W : World} {Ps : List Fact} {e g n cap : Nat} {cs : Array Value} {xs : List En} (h : Inv w W (boxF g cs e :: Ps)) (hl : xs.length = n) (hn : n ≤ cap) (hm : cap ≤ maxLen) (hsz : cs.size = cap * 20) (hx : Holds xs cs) : Inv w W (rowF ke e w.heap.size (.slice (some ⟨g, 0, none⟩) n cap) xs :: Ps) := by
  subst hl
  obtain ⟨S, h1, h2, h3⟩ := h.live
  obtain ⟨hg, hb⟩ := h2.now
  have e2 : cs.toList.length = cap * 20 := by rw [← hsz]; exact Array.length_toList
  refine ⟨h.bel, S, h1, foot_row ?_, h3⟩
  refine ⟨fun k hk => by obtain rfl : g = k := by simpa [Value.ownBlock] using hk
                         exact hg, cs.toList.take (xs.length * 20), ⟨?_, .inr ⟨g, cap, cs, rfl, (h1 g hg).1, hb, hn, hm, hsz, rfl⟩⟩, ?_, fun i x hi => ?_⟩
  · rw [List.length_take, e2]
    show min (xs.length * 20) (cap * 20) = xs.length * 20
    omega
  · rw [List.length_take, e2]
    show min (xs.length * 20) (cap * 20) = xs.length * 20
    omega
  · obtain ⟨k1, k2⟩ := hx i x hi
    have hil := (List.getElem?_eq_some_iff.1 hi).1
    have e1 : ((cs.toList.take (xs.length * 20)).drop (i * ke.sz)).take ke.sz = (ec x).toList := by
      apply List.ext_getElem?
      intro j
      show (((cs.toList.take (xs.length * 20)).drop (i * 20)).take 20)[j]? = _
      by_cases hj : j < 20
      · rw [List.getElem?_take, if_pos hj, List.getElem?_drop, List.getElem?_take, if_pos (by omega), Array.getElem?_toList, Array.getElem?_toList, k2 j hj]
      · rw [List.getElem?_take, if_neg hj, List.getElem?_eq_none (by rw [Array.length_toList, ec_size k1]; omega)]
    rw [e1]
    exact ke_mkM k1 _ _ _
theorem holds_one {xs : List En} {cs : Array Value} (h : Holds xs cs) {k : Nat} {u : Value} (hk : k < xs.length * 20) (hu : cs[k]? = some u) : u.oneCell' = true := by
  have hi : k / 20 < xs.length := (Nat.div_lt_iff_lt_mul (by decide)).2 hk
  obtain ⟨k1, k2⟩ := h (k / 20) _ (List.getElem?_eq_getElem hi)
  have := k2 (k % 20) (Nat.mod_lt _ (by decide))
  rw [show k / 20 * 20 + k % 20 = k by omega, hu] at this
  obtain ⟨hlt, he⟩ := Array.getElem?_eq_some_iff.1 this.symm
  rw [← he]
  exact (Array.all_eq_true.1 (ec_one _)) _ hlt
end Go.Proofs.Ytkifenbcepicjaa.Ky
namespace Go.Proofs.Ytkifenbcepicjaa.Ky
open Go.RowKit Go.Proofs.YtkifenbcepicjaaW.PrintWords Go.Proofs.Ytkifenbcepicjaa.Lv
set_option linter.unusedVariables false
set_option linter.unusedSimpArgs false
theorem ke_KM (W : World) (base : Nat) (p : En) (cs : List Value) (h : ke.K W p cs) : ke.M W base (fun _ => False) p cs := by
  obtain ⟨k1, rfl⟩ := ke_open h
  exact ke_mkM k1 W base _
theorem put_cells (cs : Array Value) (off : Nat) (vs : List Value) (h : off + vs.length ≤ cs.size) : ∃ cs' : Array Value, cs'.size = cs.size ∧ ∀ k, k < cs.size → cs'[k]? = if off ≤ k ∧ k < off + vs.length then vs[k - off]? else cs[k]? := by
  have e : cs.toList.length = cs.size := Array.length_toList
  refine ⟨(cs.toList.take off ++ (vs ++ cs.toList.drop (off + vs.length))).toArray, by simp; omega, fun k hk => ?_⟩
  rw [List.getElem?_toArray]
  have ht : (cs.toList.take off).length = off := by rw [List.length_take, e]; omega
  by_cases h1 : k < off
  · rw [List.getElem?_append_left (by omega), if_neg (by omega), List.getElem?_take, if_pos h1, Array.getElem?_toList]
  · rw [List.getElem?_append_right (by omega), ht]
    by_cases h2 : k < off + vs.length
    · rw [List.getElem?_append_left (by omega), if_pos ⟨by omega, h2⟩]
    · rw [List.getElem?_append_right (by omega), if_neg (by omega), List.getElem?_drop, Array.getElem?_toList]
      congr 1
      omega
/-- What stands behind the cut moves down by one; the last is cleared. -/
theorem holds_cut {xs : List En} {cs c1 c2 : Array Value} {n cap m n1 : Nat} {news : List Value} {z : Array Value} (h : Holds xs cs) (hl : xs.length = n) (hn : n ≤ cap) (hs : cs.size = cap * 20) (hm : m < n) (hn1 : n1 + 1 = n) (hnews : news = (cs.toList.drop ((m + 1) * 20)).take ((n - (m + 1)) * 20))
    (h1s : c1.size = cs.size) (h1 : ∀ k, k < cs.size → c1[k]? = if m * 20 ≤ k ∧ k < m * 20 + news.length then news[k - m * 20]? else cs[k]?) (h2 : ∀ k, k < c1.size → c2[k]? = if n1 * 20 ≤ k ∧ k < n1 * 20 + z.size then z[k - n1 * 20]? else c1[k]?) : Holds (xs.take m ++ xs.drop (m + 1)) c2 := by
  have e : cs.toList.length = cap * 20 := by rw [← hs]; exact Array.length_toList
  have hlen : news.length = (n - (m + 1)) * 20 := by rw [hnews, List.length_take, List.length_drop, e]; omega
  have hlt : (xs.take m).length = m := by rw [List.length_take]; omega
  intro i x hx
  have hi : i < n1 := by
    have := (List.getElem?_eq_some_iff.1 hx).1
    rw [List.length_append, hlt, List.length_drop] at this
    omega
  have go : ∀ i', xs[i']? = some x → (i' = i ∧ i < m ∨ i' = i + 1 ∧ m ≤ i) → Key x.key ∧ ∀ j, j < 20 → c2[i * 20 + j]? = (ec x)[j]? := by
    intro i' hx' hc
    have hi' := (List.getElem?_eq_some_iff.1 hx').1
    obtain ⟨k1, k2⟩ := h i' x hx'
    refine ⟨k1, fun j hj => ?_⟩
    rw [← k2 j hj, h2 _ (by omega), if_neg (by omega), h1 _ (by omega)]
    rcases hc with ⟨rfl, hc⟩ | ⟨rfl, hc⟩
    · rw [if_neg (by omega)]
    · rw [if_pos (by omega), hnews, List.getElem?_take, if_pos (by omega), List.getElem?_drop, Array.getElem?_toList]
      congr 1
      omega
  by_cases hc : i < m
  · rw [List.getElem?_append_left (by omega), List.getElem?_take, if_pos hc] at hx
    exact go i hx (.inl ⟨rfl, hc⟩)
  · rw [List.getElem?_append_right (by omega), hlt, List.getElem?_drop, show m + 1 + (i - m) = i + 1 by omega] at hx
    exact go (i + 1) hx (.inr ⟨rfl, by omega⟩)
theorem hEz : (Try.prog.info? 66).map (·.zero) = some (some (.agg (ec En0))) := by
  obtain ⟨i, h1, h2⟩ := Option.map_eq_some_iff.1 hEinfo
  rw [h1]
  exact congrArg some (congrArg Prod.fst h2)
theorem hEs : (Try.prog.info? 66).map (·.size) = some ke.sz := by
  obtain ⟨i, h1, h2⟩ := Option.map_eq_some_iff.1 hEinfo
  rw [h1]
  exact congrArg (fun y => some y.2.1) h2
theorem cutTo (A : Option Addr) (n c m : Nat) (hm : m ≤ n) (hc : n ≤ c) (W : World) : (Instr.slice 29 (.slice A n c) none (some (.int .i64 (m : Int))) none).run Try.prog W = .ok (.slice A m c) W := by
  obtain ⟨i, hi, _⟩ := Option.map_eq_some_iff.1 hEs
  have := cut_to (P := Try.prog) 29 66 .i64 Try.underlying29 hi A n c (m : Int) (by omega) (by omega) hc W
  rw [Int.toNat_natCast] at this
  exact this
theorem cutFrom (A : Option Addr) (n c m : Nat) (q : Int) (hq : q = (m : Int)) (hm : m ≤ n) (W : World) : (Instr.slice 29 (.slice A n c) (some (.int .i64 q)) none none).run Try.prog W = .ok (.slice (if c = m then A else A.map (·.add (m * 20))) (n - m) (c - m)) W := by
  subst hq
  obtain ⟨i, hi, hs⟩ := Option.map_eq_some_iff.1 hEs
  have := cut_from (P := Try.prog) 29 66 .i64 Try.underlying29 hi 20 hs A n c (m : Int) (by omega) (by omega) W
  rw [Int.toNat_natCast] at this
  exact this
theorem cutMid (A : Option Addr) (n c lo hi : Nat) (h1 : lo ≤ hi) (h2 : hi ≤ c) (hn : n ≤ c) (W : World) : (Instr.slice 29 (.slice A n c) (some (.int .i64 (lo : Int))) (some (.int .i64 (hi : Int))) none).run Try.prog W = .ok (.slice (if c = lo then A else A.map (·.add (lo * 20))) (hi - lo) (c - lo)) W := by
  obtain ⟨i, hi', hs⟩ := Option.map_eq_some_iff.1 hEs
  have hu := Try.underlying29
  have hel : Try.prog.elem 29 = 66 := by simp [Program.elem, hu]
  have hu2 : Try.prog.underlying 29 = some (.slice (Try.prog.elem 29)) := by rw [hel]; exact hu
  have hs' : i.size = 20 := hs
  rw [run_slice_lh W 29 A n c hu2 .i64 .i64 (lo : Int) (hi : Int) (by omega) (by omega) (by omega), hel]
  simp [sizeOf, typeInfo, hi', sliced, Result.andThen, hs']
theorem eqNil (ad : Addr) (n c : Nat) (W : World) : (binOp .eql 29 (.slice (some ad) n c) (.slice none 0 0)).run Try.prog W = .ok (.bool false) W := by
  rw [Lib.run_eql_slice_nil W 29 66 (some ad) n c 0 0 Try.underlying29]
  rfl
end Go.Proofs.Ytkifenbcepicjaa.Ky
