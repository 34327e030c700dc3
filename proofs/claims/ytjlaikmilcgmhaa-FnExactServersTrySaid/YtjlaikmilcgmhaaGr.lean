/- append of tickets to a row of one's own, whatever the source. -/
import Derived.Test.YtjlaikmilcgmhaaGp
import Derived.Laws.StructEq
namespace Go.Proofs.Ytjlaikmilcgmhaa
open Go.RowKit Go.Lib
set_option linter.unusedVariables false

theorem Sl.src {B m : Nat} {w : World} {x : Addr} {l : TL} (S : Sl 2 w B (some x) m (tkG l)) (hl : l.length = m) : ∀ j u, (flat l)[j]? = some u → w.cell? (x.add j) = some u := by
  intro j u hu
  have hj := (List.getElem?_eq_some_iff.1 hu).1
  rw [flat_length, hl] at hj
  have hn0 : ¬ m = 0 := by omega
  rcases S.2 with h | ⟨b, off, e, hb, hc⟩
  · exact absurd h hn0
  · simp only [Option.some.injEq] at e
    subst e
    have hadd : (⟨b, off, none⟩ : Addr).add j = ⟨b, off + j, none⟩ := by unfold Addr.add; split <;> simp_all
    rw [hadd]
    have h2 := hc (j / 2) (by omega) (j % 2) (by omega)
    have h3 := flat_at l (j / 2) (by omega) (j % 2) (by omega)
    rw [show j / 2 * 2 + j % 2 = j by omega] at h3
    rw [show off + j / 2 * 2 + j % 2 = off + j by omega] at h2
    rw [h3] at hu
    exact h2.trans hu

/-- append, its source a slice of tickets (nil among these). -/
theorem run_app (w : World) (ty : TypeId) (base : Nat) (v : Value) (n : Nat) (xs : List Value) (own : w.ownsRow base 30 2 v n xs) (a : Option Addr) (m c B : Nat) (l : TL) (S : Sl 2 w B a m (tkG l)) (hl : l.length = m)
    (hn : n + m ≤ 1048576) (hbase : base ≤ w.heap.size) :
    ∃ v' w', (Builtin.append_ #[40, 40] ty #[v, .slice a m c]).run Try.prog w = .ok v' w' ∧ w'.ownsRow base 30 2 v' (n + m) (xs ++ flat l) ∧ w.grownBy w' v.ownBlock := by
  obtain ⟨i0, hi0, hz0, hs0, hy0⟩ := info_parts infoTk
  cases a with
  | some x =>
    obtain ⟨v', w', h1, h2, h3, _⟩ := run_append_own (P := Try.prog) w base 40 ty _ i0 _ 2 16 Try.underlying40 hi0 hz0 hs0 hy0 rfl (by omega) v n xs own x m c (flat l) (by rw [flat_length, hl]) (S.src hl) (flat_one l) (by unfold maxLen; omega) (by omega) hbase
    exact ⟨v', w', h1, h2, h3⟩
  | none =>
    obtain rfl : m = 0 := S.nil rfl
    obtain rfl : l = [] := List.length_eq_zero_iff.1 hl
    refine ⟨v, w, ?_, by simpa [flat] using own, gb_refl _ _⟩
    rcases own.2 with ⟨rfl, rfl⟩ | ⟨g, cap, cur, rfl, _, _, hnc, _⟩
    · simp [Builtin.append_, run_underlying Try.underlying40, sizeOf, typeInfo, hi0, Builtin.lenOf, Builtin.firstCells]
    · simp [Builtin.append_, run_underlying Try.underlying40, sizeOf, typeInfo, hi0, Builtin.lenOf, Builtin.firstCells, hnc, storeCells]

/-- .. as one step of a region that draws. -/
theorem step_app {ops : Array Oper} {o : Oper} {A : Act} {w : World} {K : Act → World → Prop} {Q : Exit → Act → World → Prop} {E : Prop}
    (hg : o.guard = none) (s x : Operand) (hop : o.op = Op.call { callee := Callee.builtin Builtin.append, args := #[s, x], argTypes := #[40, 40] })
    (base : Nat) (v : Value) (n : Nat) (xs : List Value) (a : Option Addr) (m c B : Nat) (l : TL) (hv : A.eval s = v) (hx : A.eval x = .slice a m c)
    (own : w.ownsRow base 30 2 v n xs) (S : Sl 2 w B a m (tkG l)) (hl : l.length = m)
    (hn : n + m ≤ 1048576) (hbase : base ≤ w.heap.size) (N : Nat) (L : List Value) (hN : n + m = N) (hL : xs ++ flat l = L)
    (hK : ∀ a' c' w', w'.ownsRow base 30 2 (.slice a' N c') N L → w.grownBy w' v.ownBlock → K (A.put o.dst (.slice a' N c')) w') :
    if Region.wanted o (yielded ops A.tmps) = true then Oper.wp Try.prog o A w K Q else E := by
  have hw : Region.wanted o (yielded ops A.tmps) = true := by simp [Region.wanted, hg]
  rw [if_pos hw]
  subst hN hL
  obtain ⟨v', w', hr, own', hgr⟩ := run_app w o.type base v n xs own a m c B l S hl hn hbase
  obtain ⟨a', c', rfl⟩ := row_form own'
  unfold Oper.wp
  simp [execOp, hop, resolve, invoke, builtin, hv, hx, hr, Result.andThen]
  exact hK a' c' w' own' hgr

theorem own_made {w : World} {base b : Nat} (h : Blk w b #[] 30) (hb : base ≤ b) : w.ownsRow base 30 2 (.slice (some ⟨b, 0, none⟩) (0 : Nat) 0) 0 [] :=
  ⟨rfl, .inr ⟨b, 0, #[], rfl, hb, h, Nat.le_refl _, by unfold maxLen; omega, rfl, rfl⟩⟩
theorem sl_one {w : World} {b : Nat} {t : Int × Int} (h : Blk w b #[.int .i64 t.1, .int .i64 t.2] 30) : Sl 2 w (b + 1) (some ⟨b, 0, none⟩) 1 (tkG [t]) :=
  ⟨by omega, .inr ⟨b, 0, rfl, by omega, fun i hi j hj => by
    obtain rfl : i = 0 := by omega
    match j, hj with
    | 0, _ => exact h.cell 0 rfl
    | 1, _ => exact h.cell 1 rfl⟩⟩
theorem tkG_take (l : TL) (k : Nat) {i : Nat} (hi : i < k) (j : Nat) : tkG (l.take k) i j = tkG l i j := by
  have e : (l.take k).getD i (0, 0) = l.getD i (0, 0) := by simp [List.getD_eq_getElem?_getD, hi]
  cases j with
  | zero => simp only [tkG, e]
  | succ j => simp only [tkG, e]
theorem tkG_drop (l : TL) (k i j : Nat) : tkG (l.drop k) i j = tkG l (k + i) j := by
  have e : (l.drop k).getD i (0, 0) = l.getD (k + i) (0, 0) := by simp [List.getD_eq_getElem?_getD, List.getElem?_drop]
  cases j with
  | zero => simp only [tkG, e]
  | succ j => simp only [tkG, e]
theorem Sl.take {B n : Nat} {w : World} {a : Option Addr} {l : TL} (S : Sl 2 w B a n (tkG l)) {k : Nat} (hk : k ≤ n) : Sl 2 w B a k (tkG (l.take k)) := by
  refine ⟨by have := S.1; omega, ?_⟩
  rcases S.2 with h | ⟨b, off, e, hb, hc⟩
  · exact .inl (by omega)
  · exact .inr ⟨b, off, e, hb, fun i hi j hj => by rw [tkG_take l k hi]; exact hc i (by omega) j hj⟩
theorem Sl.drop {B n : Nat} {w : World} {a : Option Addr} {l : TL} (S : Sl 2 w B a n (tkG l)) {k : Nat} (hk : k ≤ n) : Sl 2 w B (Option.map (fun x => x.add (k * 2)) a) (n - k) (tkG (l.drop k)) := by
  refine ⟨by have := S.1; omega, ?_⟩
  rcases S.2 with h | ⟨b, off, e, hb, hc⟩
  · exact .inl (by omega)
  · refine .inr ⟨b, off + k * 2, ?_, hb, fun i hi j hj => ?_⟩
    · rw [e]
      have hadd : (⟨b, off, none⟩ : Addr).add (k * 2) = ⟨b, off + k * 2, none⟩ := by unfold Addr.add; split <;> simp_all
      simp [hadd]
    · rw [tkG_drop, show off + k * 2 + i * 2 + j = off + (k + i) * 2 + j by rw [Nat.add_mul]; omega]
      exact hc (k + i) (by omega) j hj
theorem row_sets {w : World} {base k n cap b j : Nat} {e : TypeId} {a : Option Addr} {u : Value} {xs : List Value} (h : w.ownsRow base e k (.slice a n cap) n xs) (hne : (Value.slice a n cap).ownBlock ≠ some b) : (w.setCell ⟨b, j, none⟩ u).ownsRow base e k (.slice a n cap) n xs := by
  obtain ⟨hl, ⟨h, h0⟩ | ⟨g, cap', cur, h, hg, hc, h'⟩⟩ := h
  · exact ⟨hl, .inl ⟨h, h0⟩⟩
  · refine ⟨hl, .inr ⟨g, cap', cur, h, hg, (Below.heap_setCell w _ u g ?_).trans hc, h'⟩⟩
    rw [h] at hne
    simp only [Value.ownBlock, ne_eq, Option.some.injEq] at hne
    exact hne
theorem row_cap {w : World} {base k n cap : Nat} {e : TypeId} {a : Option Addr} {xs : List Value} (h : w.ownsRow base e k (.slice a n cap) n xs) : n ≤ cap := by
  obtain ⟨_, ⟨h, h0⟩ | ⟨g, cap', cur, h, hg, hc, h', _⟩⟩ := h
  · simp only [Value.slice.injEq] at h; omega
  · simp only [Value.slice.injEq] at h; omega
theorem Sl.drop_at {B n b off : Nat} {w : World} {l : TL} (S : Sl 2 w B (some ⟨b, off, none⟩) n (tkG l)) {k : Nat} (hk : k ≤ n) : Sl 2 w B (some ⟨b, off + k * 2, none⟩) (n - k) (tkG (l.drop k)) := by
  have h := S.drop hk
  have hadd : (⟨b, off, none⟩ : Addr).add (k * 2) = ⟨b, off + k * 2, none⟩ := by unfold Addr.add; split <;> simp_all
  simpa [hadd] using h
theorem eq_tk (a b c d : Int) (w : World) : (Op.equalIn 10000 30 (.agg #[.int .i64 a, .int .i64 b]) (.agg #[.int .i64 c, .int .i64 d])).run Try.prog w = .ok (a == c && b == d) w := by
  have u3 := Try.underlying3
  have hS : Try.prog.underlying 30 = some (.struct (Try.prog.fieldsOf 30)) := by kernel_rfl
  have hp : Try.prog.stoodInHeld 30 = false := by kernel_rfl
  rw [show (10000 : Nat) = 9999 + 1 from rfl, run_equalIn_agg w 9999 30 _ _ hS hp]
  simp only [Program.fieldsOf, Try.underlying30]
  go_simp
  by_cases h1 : a = c <;> by_cases h2 : b = d <;> simp [h1, h2]
theorem eqv_tk (x y : Int × Int) (w : World) : (binOp .eql 30 (.agg #[.int .i64 x.1, .int .i64 x.2]) (.agg #[.int .i64 y.1, .int .i64 y.2])).run Try.prog w = .ok (.bool (decide (x = y))) w := by
  rw [run_eql_struct, eq_tk]
  have : (x.1 == y.1 && x.2 == y.2) = decide (x = y) := by
    rw [Bool.eq_iff_iff]; simp [Prod.ext_iff]
  rw [this]; rfl
theorem neqv_tk (x y : Int × Int) (w : World) : (binOp .neq 30 (.agg #[.int .i64 x.1, .int .i64 x.2]) (.agg #[.int .i64 y.1, .int .i64 y.2])).run Try.prog w = .ok (.bool (!decide (x = y))) w := by
  rw [run_neq_struct, eq_tk]
  have : (x.1 == y.1 && x.2 == y.2) = decide (x = y) := by
    rw [Bool.eq_iff_iff]; simp [Prod.ext_iff]
  rw [this]; rfl
theorem sl_zero (w : World) (B : Nat) (a : Option Addr) (g : Nat → Nat → Value) : Sl 2 w B a 0 g := ⟨by omega, .inl rfl⟩
end Go.Proofs.Ytjlaikmilcgmhaa
