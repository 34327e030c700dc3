/- Insert of one ticket where there is no room; the four roads as one. -/
import Derived.Test.YtjlaikmilcgmhaaGm
namespace Go.Proofs.Ytjlaikmilcgmhaa
open Go.RowKit Go.Lib
set_option linter.unusedVariables false
attribute [local go_sem ↓] Go.wp_at_zero Go.wp_at_succ

theorem moved2 {cur x t r : List Value} {o k : Nat} (hx : x.length = o) (ht : t.length = k) (hrow : cur.take o = x) (hfit : o + k + r.length ≤ cur.length) :
    (((cur.take o ++ t ++ cur.drop (o + k)).take (o + k) ++ r ++ (cur.take o ++ t ++ cur.drop (o + k)).drop (o + k + r.length))).take (o + k + r.length) = x ++ t ++ r := by
  have e1 : (cur.take o ++ t ++ cur.drop (o + k)).take (o + k) = x ++ t := by
    rw [hrow, List.take_append_of_le_length (by simp; omega), List.take_of_length_le (by simp; omega)]
  rw [e1, List.take_append_of_le_length (by simp; omega), List.take_of_length_le (by simp; omega)]

set_option maxHeartbeats 4000000 in
set_option maxRecDepth 100000 in
theorem insert_grow (g n cap pos : Nat) (l : TL) (t : Int × Int) (base vb : Nat) (w : World) (hl : l.length = n) (hn : n ≤ 8) (hpos : pos < n) (hroom : cap < n + 1) (cur : Array Value)
    (hbase : base ≤ w.heap.size) (G : Blk w g cur 30) (hnc : n ≤ cap) (hcs : cur.size = cap * 2) (hrow : cur.toList.take (n * 2) = flat l) (V : Blk w vb #[.int .i64 t.1, .int .i64 t.2] 30) :
    Calls Try.prog 50 #[.slice (some ⟨g, 0, none⟩) n cap, .int .i64 pos, .slice (some ⟨vb, 0, none⟩) (1 : Nat) 1] w fun e w' => ∃ (a' : Option Addr) (cap' : Nat), e = .returned (.slice a' (n + 1) cap') ∧ w.grownBy w' (some g) ∧ w'.ownsRow base 30 2 (.slice a' (n + 1) cap') (n + 1) (flat (l.take pos ++ t :: l.drop pos)) := by
  obtain rfl : cap = n := by omega
  have hsz : (Try.prog.info? 30).map (·.size) = some 2 := by kernel_rfl
  obtain ⟨i0, hi0, hz0, hs0, hy0⟩ := info_parts infoTk
  have hlt := G.lt
  have hltv := V.lt
  have hfl : flat l = flat (l.take pos) ++ flat (l.drop pos) := by rw [← flat_append, List.take_append_drop]
  have hlx : (flat (l.take pos)).length = pos * 2 := by rw [flat_length, List.length_take]; omega
  have hlr : (flat (l.drop pos)).length = (cap - pos) * 2 := by rw [flat_length, List.length_drop, hl]
  have hold : (Builtin.firstCells i0.size pos (.slice (some ⟨g, 0, none⟩) pos cap)).run Try.prog w.drew = .ok (flat (l.take pos)).toArray w.drew := by
    rw [hs0]
    refine run_firstCells_some w.drew 2 pos ⟨g, 0, none⟩ pos cap (flat (l.take pos)) hlx (fun j v hj => ?_)
    have hadd : (⟨g, 0, none⟩ : Addr).add j = ⟨g, j, none⟩ := by unfold Addr.add; split <;> simp_all
    rw [hadd]
    refine G.drew.cell _ ?_
    have hjl := (List.getElem?_eq_some_iff.1 hj).1
    rw [← Array.getElem?_toList, ← List.getElem?_take_of_lt (i := j) (j := cap * 2) (by omega), hrow, hfl, List.getElem?_append_left (by omega)]
    exact hj
  obtain ⟨K, hK⟩ : ∃ K, K = grownCap w (cap + 1) cap 30 := ⟨_, rfl⟩
  obtain ⟨ROW, hROW⟩ : ∃ ROW : Array Value, ROW = (flat (l.take pos)).toArray ++ Builtin.zeroCells (Value.agg #[.int .i64 0, .int .i64 0]).cells (cap + 1 - pos) ++ Builtin.zeroCells (Value.agg #[.int .i64 0, .int .i64 0]).cells (K - (cap + 1)) := ⟨_, rfl⟩
  have hKn : cap + 1 ≤ K := by rw [hK]; exact grownCap_ge w _ _ _
  have hKm : K ≤ maxLen := by rw [hK]; exact grownCap_le_maxLen w (cap + 1) cap _ (by unfold maxLen; omega)
  obtain ⟨W1, hW1⟩ : ∃ W1, W1 = w.drew.alloc (.cells ROW 30) := ⟨_, rfl⟩
  have hrz : ∀ ty, (Builtin.append_ #[40, 3] ty #[.slice (some ⟨g, 0, none⟩) pos cap, .int .i64 ((cap : Int) + 1 - (pos : Int))]).run Try.prog w = .ok (.slice (some ⟨w.heap.size, 0, none⟩) (cap + 1) K) W1 := fun ty => by
    have h := Lib.run_append_grow_zeros w 40 3 ty 30 i0 _ .i64 .i64 Try.underlying40 Try.underlying3 hi0 hz0 (some ⟨g, 0, none⟩) pos cap (flat (l.take pos)) hold (cap + 1 - pos) (by omega) (by omega) (by omega) (by omega) (by rw [hy0]; omega) (by rw [hy0, show pos + (cap + 1 - pos) = cap + 1 by omega]; exact growslice_fits (by omega) (by omega))
    rw [show pos + (cap + 1 - pos) = cap + 1 by omega] at h
    rw [show (cap : Int) + 1 - (pos : Int) = ((cap + 1 - pos : Nat) : Int) by omega, hW1, hROW, hK]
    exact h
  have hRs : ROW.size = K * 2 := by
    rw [hROW]
    simp [Builtin.zeroCells, Value.cells, hlx]
    omega
  have hRt : ROW.toList.take (pos * 2) = flat (l.take pos) := by
    rw [hROW]
    simp only [Array.toList_append, List.append_assoc]
    rw [List.take_append_of_le_length (by simp [hlx]), List.take_of_length_le (by simp [hlx])]
  have N1 : Blk W1 w.heap.size ROW 30 := by rw [hW1]; exact Blk.new w.drew ROW 30
  have G1 : Blk W1 g cur 30 := by rw [hW1]; exact G.drew.alloc _
  have V1 : Blk W1 vb #[.int .i64 t.1, .int .i64 t.2] 30 := by rw [hW1]; exact V.drew.alloc _
  obtain ⟨cur1, hcur1⟩ : ∃ c, c = (ROW.toList.take (pos * 2) ++ [Value.int .i64 t.1, Value.int .i64 t.2] ++ ROW.toList.drop (pos * 2 + 2)).toArray := ⟨_, rfl⟩
  obtain ⟨cur2, hcur2⟩ : ∃ c, c = (cur1.toList.take ((pos + 1) * 2) ++ flat (l.drop pos) ++ cur1.toList.drop ((pos + 1) * 2 + (flat (l.drop pos)).length)).toArray := ⟨_, rfl⟩
  obtain ⟨W2, hW2⟩ : ∃ W2, W2 = W1.setRow w.heap.size cur1 := ⟨_, rfl⟩
  have hcp1 : ∀ ty dc, (Builtin.copy_ #[40, 40] ty #[.slice (some ⟨w.heap.size, pos * 2, none⟩) (cap + 1 - pos) dc, .slice (some ⟨vb, 0, none⟩) (1 : Nat) 1]).run Try.prog W1 = .ok (goInt ((1 : Nat) : Int)) W2 := fun ty dc => by
    rw [hW2, hcur1]
    exact run_copy_rowN W1 _ _ ty 30 w.heap.size (pos * 2) (cap + 1 - pos) dc ⟨vb, 0, none⟩ 1 1 ROW 30 [.int .i64 t.1, .int .i64 t.2] 2 1 Try.underlying40 hsz N1 (by simp only [Nat.min_def]; split <;> omega) rfl (World.news_of_block V1) (by rw [hRs]; simp; omega) (by simp [Value.oneCell'])
  have N2 : Blk W2 w.heap.size cur1 30 := by rw [hW2]; exact setRow_heap _ _ _ _ _ _ N1
  have G2 : Blk W2 g cur 30 := by rw [hW2]; exact (setRow_other _ _ _ _ (by omega)).trans G1
  have hs1 : cur1.size = K * 2 := by
    rw [hcur1]
    simp only [List.size_toArray, List.length_append, List.length_take, List.length_drop, Array.length_toList, List.length_cons, List.length_nil, hRs]
    omega
  have hcp2 : ∀ ty dc sc, (Builtin.copy_ #[40, 40] ty #[.slice (some ⟨w.heap.size, (pos + 1) * 2, none⟩) (cap - pos) dc, .slice (some ⟨g, pos * 2, none⟩) (cap - pos) sc]).run Try.prog W2.drew = .ok (goInt ((cap - pos : Nat) : Int)) (W2.drew.setRow w.heap.size cur2) := fun ty dc sc => by
    rw [hcur2]
    refine run_copy_rowN W2.drew _ _ ty 30 w.heap.size ((pos + 1) * 2) (cap - pos) dc ⟨g, pos * 2, none⟩ (cap - pos) sc cur1 30 (flat (l.drop pos)) 2 (cap - pos) Try.underlying40 hsz N2.drew (by simp only [Nat.min_def]; split <;> omega) hlr ?_ (by rw [hlr, hs1]; omega) (flat_one _)
    intro j v hj
    have hadd : (⟨g, pos * 2, none⟩ : Addr).add j = ⟨g, pos * 2 + j, none⟩ := by unfold Addr.add; split <;> simp_all
    rw [hadd]
    refine G2.drew.cell _ ?_
    have hjl := (List.getElem?_eq_some_iff.1 hj).1
    rw [← Array.getElem?_toList, ← List.getElem?_take_of_lt (i := pos * 2 + j) (j := cap * 2) (by omega), hrow, hfl, List.getElem?_append_right (by omega), hlx, show pos * 2 + j - pos * 2 = j by omega]
    exact hj
  have hs2 : cur2.size = K * 2 := by
    rw [hcur2]
    simp only [List.size_toArray, List.length_append, List.length_take, List.length_drop, Array.length_toList, hlr, hs1]
    omega
  have hrow2 : cur2.toList.take ((cap + 1) * 2) = flat (l.take pos ++ t :: l.drop pos) := by
    rw [hcur2, hcur1, flat_append, flat_cons, ← List.append_assoc]
    have := moved2 (cur := ROW.toList) (x := flat (l.take pos)) (t := [Value.int .i64 t.1, Value.int .i64 t.2]) (r := flat (l.drop pos)) (o := pos * 2) (k := 2) hlx rfl hRt (by rw [hlr, Array.length_toList, hRs]; omega)
    rw [hlr, show pos * 2 + 2 + (cap - pos) * 2 = (cap + 1) * 2 by omega] at this
    rw [hlr, show (pos + 1) * 2 = pos * 2 + 2 by omega, show pos * 2 + 2 + (cap - pos) * 2 = (cap + 1) * 2 by omega]
    exact this
  have own2 : (W2.drew.setRow w.heap.size cur2).ownsRow base 30 2 (.slice (some ⟨w.heap.size, 0, none⟩) (cap + 1) K) (cap + 1) (flat (l.take pos ++ t :: l.drop pos)) :=
    ⟨by rw [flat_length, List.length_append, List.length_cons, List.length_take, List.length_drop]; omega, .inr ⟨w.heap.size, K, cur2, rfl, hbase, setRow_heap _ _ _ _ _ _ N2.drew, hKn, hKm, hs2, hrow2⟩⟩
  have hC : w.grownBy (W2.drew.setRow w.heap.size cur2) (some g) := by
    rw [hW2, hW1]
    exact gb_row (gb_drew (gb_row (gb_alloc (gb_drew (gb_refl _ _)) _) (.inr (Nat.le_refl _)) _)) (.inr (Nat.le_refl _)) _
  have H0 := Lib.hid hrz
  have H1 := Lib.hid hcp1
  have H2 := Lib.hid hcp2
  have H3 := Lib.hid own2
  have H4 := Lib.hid hC
  unfold maxLen at hKm
  clear hrz hcp1 hcp2 own2 hC hrow2 hs2 hs1 V1 G1 N1 N2 G2 hcur1 hcur2 hfl hlx hlr hrow hRs hRt hROW hK hold hi0 hz0 hs0 hy0 hsz
  have HW1 := Lib.hid hW1
  have HW2 := Lib.hid hW2
  clear hW1 hW2
  have h1 : ¬ ((pos : Int) = (cap : Int)) := by omega
  have h2 : ¬ (cap = pos) := by omega
  have h3 : ¬ (K = pos + 1) := by omega
  have h3' : ¬ (K = pos) := by omega
  have h4 : (cap : Int) < (cap : Int) + 1 := by omega
  have h5 : (pos : Int) ≤ (cap : Int) := by omega
  have h6 : (pos : Int) + 1 ≤ (cap : Int) + 1 := by omega
  go_enter Try.func50, Try.ntmps50
  go_wp2_with (first | (at_builtin; refine Lib.wpList_append_run _ rfl _ _ _ _ rfl _ _ rfl rfl _ _ (H0.out _) ?_) | (refine wpList_copy_runI (o := ⟨some 45, _, _, _, _, _⟩) _ (by rfl) _ _ 40 40 (by rfl) (.slice (some ⟨w.heap.size, pos * 2, none⟩) (cap + 1 - pos) (K - pos)) (.slice (some ⟨vb, 0, none⟩) (1 : Nat) 1) (by rfl) (by rfl) (H1.out _ _) ?_))
  have hw1 : IntKind.i64.wrap ((pos : Int) + 1) = (pos : Int) + 1 := IntWalk.i64_in _ (by omega)
  have hb1 : (0 : Int) ≤ (pos : Int) + 1 := by omega
  have htn : ((pos : Int) + 1).toNat = pos + 1 := by omega
  have h7 : (pos : Int) ≤ (cap : Int) + 1 := by omega
  go_region_law (refine step_copy_runI rfl _ _ 40 40 rfl (.slice (some ⟨w.heap.size, (pos + 1) * 2, none⟩) (cap - pos) (K - (pos + 1))) (.slice (some ⟨g, pos * 2, none⟩) (cap - pos) (cap - pos)) (by simp [Act.eval, Act.put]) (by simp [Act.eval, Act.put]) (H2.out _ _ _) ?_)
  clear hw1 hb1 htn
  go_wp2_with fail
  go_ret
  exact ⟨_, _, rfl, H4.out, H3.out⟩

/-- slices.Insert of one ticket. -/
theorem insert_c (a : Option Addr) (n cap pos : Nat) (l : TL) (t : Int × Int) (base vb : Nat) (w : World) (hl : l.length = n) (hn : n ≤ 8) (hpos : pos ≤ n)
    (own : w.ownsRow base 30 2 (.slice a n cap) n (flat l)) (hbase : base ≤ w.heap.size) (V : Blk w vb #[.int .i64 t.1, .int .i64 t.2] 30) (hvb : (Value.slice a n cap).ownBlock ≠ some vb) :
    Calls Try.prog 50 #[.slice a n cap, .int .i64 pos, .slice (some ⟨vb, 0, none⟩) (1 : Nat) 1] w fun e w' => ∃ (a' : Option Addr) (cap' : Nat), e = .returned (.slice a' (n + 1) cap') ∧ w.grownBy w' (Value.slice a n cap).ownBlock ∧ w'.ownsRow base 30 2 (.slice a' (n + 1) cap') (n + 1) (flat (l.take pos ++ t :: l.drop pos)) := by
  by_cases h : pos = n
  · subst h
    have e : l.take pos ++ t :: l.drop pos = l ++ [t] := by rw [List.take_of_length_le (by omega), List.drop_of_length_le (by omega)]
    rw [e]
    exact insert_end a pos cap l t base vb w hl hn own hbase V
  · obtain ⟨_, ⟨h0, h1⟩ | ⟨g, cap', cur, hv, hB, hg, hnc, hcm, hcs, hrow⟩⟩ := own
    · omega
    · simp only [Value.slice.injEq] at hv
      obtain ⟨rfl, _, rfl⟩ := hv
      have hvg : vb ≠ g := by rintro rfl; exact hvb rfl
      by_cases hr : n + 1 ≤ cap
      · exact insert_room g n cap pos l t base vb w hl hn (by omega) hr cur hB hg hcm hcs hrow V hvg
      · exact insert_grow g n cap pos l t base vb w hl hn (by omega) (by omega) cur hbase hg hnc hcs hrow V
end Go.Proofs.Ytjlaikmilcgmhaa
