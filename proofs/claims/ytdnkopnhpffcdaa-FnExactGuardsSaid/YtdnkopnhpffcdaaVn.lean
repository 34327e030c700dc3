/- append of numbers, whatever the source. -/
import Derived.Test.YtdnkopnhpffcdaaVm
namespace Go.Proofs.Ytdnkopnhpffcdaa
open Go.RowKit
set_option linter.unusedVariables false
theorem ints_one (l : List Int) : ∀ v ∈ ints l, v.oneCell' = true := by
  intro v hv
  unfold ints at hv
  obtain ⟨t, _, rfl⟩ := List.mem_map.1 hv
  rfl
theorem ints_src {B m : Nat} {w : World} {x : Addr} {l : List Int} (S : Sl 1 w B (some x) m (inG l)) (hl : l.length = m) : ∀ j u, (ints l)[j]? = some u → w.cell? (x.add j) = some u := by
  intro j u hu
  have hj := (List.getElem?_eq_some_iff.1 hu).1
  rw [ints_len, hl] at hj
  rcases S.2 with h | ⟨b, off, e, hb, hc⟩
  · omega
  · simp only [Option.some.injEq] at e
    subst e
    have hadd : (⟨b, off, none⟩ : Addr).add j = ⟨b, off + j, none⟩ := by unfold Addr.add; split <;> simp_all
    rw [hadd]
    have h2 := hc j hj 0 (by omega)
    have h3 := ints_at l j (by omega) 0 (by omega)
    rw [Nat.mul_one, Nat.add_zero] at h2 h3
    rw [h3] at hu
    exact h2.trans hu
theorem run_appi (w : World) (ty : TypeId) (base : Nat) (v : Value) (n : Nat) (xs : List Value) (own : w.ownsRow base 3 1 v n xs) (a : Option Addr) (m c B : Nat) (l : List Int) (S : Sl 1 w B a m (inG l)) (hl : l.length = m)
    (hn : n + m ≤ 1048576) (hbase : base ≤ w.heap.size) :
    ∃ v' w', (Builtin.append_ #[24, 24] ty #[v, .slice a m c]).run Try.prog w = .ok v' w' ∧ w'.ownsRow base 3 1 v' (n + m) (xs ++ ints l) ∧ w.grownBy w' v.ownBlock := by
  obtain ⟨i0, hi0, hz0, hs0, hy0⟩ := info_parts infoIn
  cases a with
  | some x =>
    obtain ⟨v', w', h1, h2, h3, _⟩ := run_append_own (P := Try.prog) w base 24 ty _ i0 _ 1 8 Try.underlying24 hi0 hz0 hs0 hy0 rfl (by omega) v n xs own x m c (ints l) (by rw [ints_len, hl]; omega) (ints_src S hl) (ints_one l) (by unfold maxLen; omega) (by omega) hbase
    exact ⟨v', w', h1, h2, h3⟩
  | none =>
    obtain rfl : m = 0 := by
      rcases S.2 with h | ⟨b, off, e, _⟩
      · exact h
      · cases e
    obtain rfl : l = [] := List.length_eq_zero_iff.1 hl
    refine ⟨v, w, ?_, by simpa [ints] using own, ⟨rfl, rfl, rfl, Nat.le_refl _, fun _ _ _ => rfl⟩⟩
    rcases own.2 with ⟨rfl, rfl⟩ | ⟨g, cap, cur, rfl, _, _, hnc, _⟩
    · simp [Builtin.append_, run_underlying Try.underlying24, sizeOf, typeInfo, hi0, Builtin.lenOf, Builtin.firstCells]
    · simp [Builtin.append_, run_underlying Try.underlying24, sizeOf, typeInfo, hi0, Builtin.lenOf, Builtin.firstCells, hnc, storeCells]
theorem wp_appi {ops : Array Oper} {rest : List Oper} {o : Oper} {A : Act} {w : World} {Q : Exit → Act → World → Prop}
    (hg : o.guard = none) (s x : Operand) (hop : o.op = Op.call { callee := Callee.builtin Builtin.append, args := #[s, x], argTypes := #[24, 24] })
    (base : Nat) (v : Value) (n : Nat) (xs : List Value) (a : Option Addr) (m c B : Nat) (l : List Int) (hv : A.eval s = v) (hx : A.eval x = .slice a m c)
    (own : w.ownsRow base 3 1 v n xs) (S : Sl 1 w B a m (inG l)) (hl : l.length = m)
    (hn : n + m ≤ 1048576) (hbase : base ≤ w.heap.size) (N : Nat) (L : List Value) (hN : n + m = N) (hL : xs ++ ints l = L)
    (hK : ∀ a' c' w', w'.ownsRow base 3 1 (.slice a' N c') N L → w.grownBy w' v.ownBlock → wpList Try.prog ops Q rest (A.put o.dst (.slice a' N c')) w') :
    wpList Try.prog ops Q (o :: rest) A w := by
  refine wpList_plain hg fun K hK' => ?_
  subst hN hL
  obtain ⟨v', w', hr, own', hgr⟩ := run_appi w o.type base v n xs own a m c B l S hl hn hbase
  obtain ⟨a', c', rfl⟩ := row_form own'
  unfold Oper.wp
  simp [execOp, hop, resolve, invoke, builtin, hv, hx, hr, Result.andThen]
  exact hK' _ _ (hK a' c' w' own' hgr)
theorem is_one {w : World} {b : Nat} {x : Int} (h : Blk w b #[.int .i64 x] 3) : Sl 1 w (b + 1) (some ⟨b, 0, none⟩) 1 (inG [x]) :=
  ⟨by omega, .inr ⟨b, 0, rfl, by omega, fun i hi j hj => by
    obtain rfl : i = 0 := by omega
    obtain rfl : j = 0 := by omega
    exact h.cell 0 rfl⟩⟩
theorem grown_chg {w w' : World} {base : Nat} {k n : Nat} {e : TypeId} {v : Value} {xs : List Value} (own : w.ownsRow base e k v n xs) (hg : w.grownBy w' v.ownBlock) (hb : base ≤ w.heap.size) : Below base w w' :=
  (chg_grown own hg).below (Nat.le_refl _) hb
end Go.Proofs.Ytdnkopnhpffcdaa
