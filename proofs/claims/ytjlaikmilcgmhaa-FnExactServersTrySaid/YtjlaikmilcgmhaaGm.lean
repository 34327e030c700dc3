/- Insert of one ticket into a row of one's own. -/
import Derived.Test.YtjlaikmilcgmhaaGl
import Derived.Shelf.Spec.SlicesInsert
import Derived.Lib.AppendZerosOnto
import Derived.Laws.CopyRow
namespace Go.Proofs.Ytjlaikmilcgmhaa
open Go.RowKit Go.Lib
set_option linter.unusedVariables false
attribute [local go_sem ↓] Go.wp_at_zero Go.wp_at_succ

/-- copy, elements of z cells: all is read before anything is written. -/
theorem run_copy_rowN {P : Program} (w : World) (dT sT ty elem : TypeId) (g o dLen dCap : Nat) (a : Addr) (sLen sCap : Nat) (cur : Array Value) (t : TypeId) (cs : List Value) (z n : Nat)
    (hu : P.underlying dT = some (.slice elem)) (hs : (P.info? elem).map (·.size) = some z)
    (hg : w.heap[g]? = some (.cells cur t (0, 0))) (hn : n = Nat.min sLen dLen) (hcl : cs.length = n * z)
    (hsrc : ∀ j v, cs[j]? = some v → w.cell? (a.add j) = some v) (hfit : o + cs.length ≤ cur.size) (h1 : ∀ v ∈ cs, v.oneCell' = true) :
    (Builtin.copy_ #[dT, sT] ty #[.slice (some ⟨g, o, none⟩) dLen dCap, .slice (some a) sLen sCap]).run P w =
      .ok (goInt n) (w.setRow g (cur.toList.take o ++ cs ++ cur.toList.drop (o + cs.length)).toArray) := by
  have hl := run_loadCells_list (P := P) w a cs hsrc
  have hst := run_storeCells_at P g o t cs 0 cur w hg (by simpa using hfit) h1
  rw [hcl] at hl
  cases hq : P.info? elem with
  | none => simp [hq] at hs
  | some i =>
    have hi : i.size = z := by simpa [hq] using hs
    simp [Builtin.copy_, run_underlying hu, Builtin.lenOf, Builtin.firstCells, sizeOf, typeInfo, hq, hi, ← hn, hl, hst]

/-- What the two moves make of a row. -/
theorem moved {cur x t r : List Value} {o k : Nat} (hx : x.length = o) (ht : t.length = k) (hrow : cur.take (o + r.length) = x ++ r) (hfit : o + k + r.length ≤ cur.length) :
    ((((cur.take (o + k) ++ r ++ cur.drop (o + k + r.length)).take o) ++ t ++ ((cur.take (o + k) ++ r ++ cur.drop (o + k + r.length)).drop (o + k))).take (o + k + r.length)) = x ++ t ++ r := by
  have e1 : (cur.take (o + k) ++ r ++ cur.drop (o + k + r.length)).take o = x := by
    rw [List.append_assoc, List.take_append_of_le_length (by simp; omega), List.take_take, Nat.min_eq_left (by omega)]
    have : cur.take o = (cur.take (o + r.length)).take o := by rw [List.take_take, Nat.min_eq_left (by omega)]
    rw [this, hrow, List.take_append_of_le_length (by omega), List.take_of_length_le (by omega)]
  have e2 : (cur.take (o + k) ++ r ++ cur.drop (o + k + r.length)).drop (o + k) = r ++ cur.drop (o + k + r.length) := by
    rw [List.append_assoc, List.drop_append_of_le_length (by simp; omega), List.drop_of_length_le (by simp; omega), List.nil_append]
  rw [e1, e2, ← List.append_assoc, List.take_append_of_le_length (by simp; omega), List.take_of_length_le (by simp; omega)]
theorem flat_append (a b : TL) : flat (a ++ b) = flat a ++ flat b := by simp [flat]
theorem flat_cons (p : Int × Int) (l : TL) : flat (p :: l) = [.int .i64 p.1, .int .i64 p.2] ++ flat l := by simp [flat]
theorem flat_take (l : TL) (k : Nat) : flat (l.take k) = (flat l).take (k * 2) := by
  induction l generalizing k with
  | nil => simp [flat]
  | cons a l ih =>
    cases k with
    | zero => simp [flat]
    | succ k => rw [List.take_succ_cons, flat_cons, flat_cons, ih, show (k + 1) * 2 = k * 2 + 1 + 1 by omega]; simp
theorem flat_drop (l : TL) (k : Nat) : flat (l.drop k) = (flat l).drop (k * 2) := by
  induction l generalizing k with
  | nil => simp [flat]
  | cons a l ih =>
    cases k with
    | zero => simp [flat]
    | succ k => rw [List.drop_succ_cons, flat_cons, ih, show (k + 1) * 2 = k * 2 + 1 + 1 by omega]; simp

theorem setRow_other (w : World) (g k : Nat) (cs : Array Value) (h : k ≠ g) : (w.setRow g cs).heap[k]? = w.heap[k]? := by
  unfold World.setRow
  simp [Array.getElem?_modify, Ne.symm h]
theorem setRow_size (w : World) (g : Nat) (cs : Array Value) : (w.setRow g cs).heap.size = w.heap.size := by
  unfold World.setRow
  simp
theorem Chg.row {lo hi g : Nat} {a w : World} (h : Chg lo hi a w) (hg : lo ≤ g ∧ g < hi) (cs : Array Value) : Chg lo hi a (w.setRow g cs) :=
  ⟨h.os, h.tape, h.output, by rw [setRow_size]; exact h.size, fun i hi hn => (setRow_other w g i cs (by omega)).trans (h.block i hi hn)⟩

theorem gb_refl (w : World) (r : Option Nat) : w.grownBy w r := ⟨rfl, rfl, rfl, Nat.le_refl _, fun _ _ _ => rfl⟩
theorem gb_drew {a w : World} {r : Option Nat} (h : a.grownBy w r) : a.grownBy w.drew r := ⟨h.os, h.tape, h.output, h.size, h.block⟩
theorem gb_alloc {a w : World} {r : Option Nat} (h : a.grownBy w r) (o : Obj) : a.grownBy (w.alloc o) r :=
  ⟨h.os, h.tape, h.output, Nat.le_trans h.size (by simp), fun i hi hn => (Below.heap_alloc w o i (Nat.lt_of_lt_of_le hi h.size)).trans (h.block i hi hn)⟩
theorem gb_row {a w : World} {r : Option Nat} (h : a.grownBy w r) {g : Nat} (hg : r = some g ∨ a.heap.size ≤ g) (cs : Array Value) : a.grownBy (w.setRow g cs) r :=
  ⟨h.os, h.tape, h.output, by rw [setRow_size]; exact h.size, fun i hi hn => (setRow_other w g i cs (by
    rintro rfl
    rcases hg with e | e
    · exact hn e.symm
    · omega)).trans (h.block i hi hn)⟩

/-- At the end: an append. -/
theorem insert_end (a : Option Addr) (n cap : Nat) (l : TL) (t : Int × Int) (base vb : Nat) (w : World) (hl : l.length = n) (hn : n ≤ 8)
    (own : w.ownsRow base 30 2 (.slice a n cap) n (flat l)) (hbase : base ≤ w.heap.size) (V : Blk w vb #[.int .i64 t.1, .int .i64 t.2] 30) :
    Calls Try.prog 50 #[.slice a n cap, .int .i64 n, .slice (some ⟨vb, 0, none⟩) (1 : Nat) 1] w fun e w' => ∃ (a' : Option Addr) (cap' : Nat), e = .returned (.slice a' (n + 1) cap') ∧ w.grownBy w' (Value.slice a n cap).ownBlock ∧ w'.ownsRow base 30 2 (.slice a' (n + 1) cap') (n + 1) (flat (l ++ [t])) := by
  obtain ⟨i0, hi0, hz0, hs0, hy0⟩ := info_parts infoTk
  have HI := Lib.hid hi0; have HZ := Lib.hid hz0; have HZ1 := Lib.hid hs0; have HY := Lib.hid hy0
  have NE := Lib.hid (World.news_of_block V)
  have hoc : ∀ c c', (Value.slice a n c).ownBlock = (Value.slice a n c').ownBlock := fun c c' => by cases a <;> rfl
  clear hi0 hz0 hs0 hy0
  go_enter Try.func50, Try.ntmps50
  go_wp2_with (at_builtin; refine wpList_append_lies _ rfl _ _ _ rfl base _ i0 _ 2 16 Try.underlying40 HI.out HZ.out HZ1.out HY.out rfl (by omega) (.slice a n cap) _ _ rfl own ⟨vb, 0, none⟩ 1 1 [.int .i64 t.1, .int .i64 t.2] rfl rfl NE.out (by simp [Value.oneCell']) (by omega) (by unfold maxLen; omega) (by omega) hbase w.heap.size rfl ?_; intro g2 cap2 w2 own2 hgrow hat hg2)
  all_goals
    go_ret
    exact ⟨some ⟨g2, 0, none⟩, cap2, rfl, by rw [hoc _ cap]; exact hgrow, by rw [flat_snoc]; exact own2⟩

set_option maxHeartbeats 4000000 in
set_option maxRecDepth 100000 in
/-- In place: there is room. -/
theorem insert_room (g n cap pos : Nat) (l : TL) (t : Int × Int) (base vb : Nat) (w : World) (hl : l.length = n) (hn : n ≤ 8) (hpos : pos < n) (hroom : n + 1 ≤ cap) (cur : Array Value)
    (hB : base ≤ g) (G : Blk w g cur 30) (hcm : cap ≤ maxLen) (hcs : cur.size = cap * 2) (hrow : cur.toList.take (n * 2) = flat l) (V : Blk w vb #[.int .i64 t.1, .int .i64 t.2] 30) (hvb : vb ≠ g) :
    Calls Try.prog 50 #[.slice (some ⟨g, 0, none⟩) n cap, .int .i64 pos, .slice (some ⟨vb, 0, none⟩) (1 : Nat) 1] w fun e w' => ∃ (a' : Option Addr) (cap' : Nat), e = .returned (.slice a' (n + 1) cap') ∧ w.grownBy w' (some g) ∧ w'.ownsRow base 30 2 (.slice a' (n + 1) cap') (n + 1) (flat (l.take pos ++ t :: l.drop pos)) := by
  have hsz : (Try.prog.info? 30).map (·.size) = some 2 := by kernel_rfl
  unfold maxLen at hcm
  have hlt := G.lt
  have hfl : flat l = flat (l.take pos) ++ flat (l.drop pos) := by rw [← flat_append, List.take_append_drop]
  have hlx : (flat (l.take pos)).length = pos * 2 := by rw [flat_length, List.length_take]; omega
  have hlr : (flat (l.drop pos)).length = (n - pos) * 2 := by rw [flat_length, List.length_drop, hl]
  obtain ⟨cur1, hcur1⟩ : ∃ c, c = (cur.toList.take ((pos + 1) * 2) ++ flat (l.drop pos) ++ cur.toList.drop ((pos + 1) * 2 + (flat (l.drop pos)).length)).toArray := ⟨_, rfl⟩
  obtain ⟨cur2, hcur2⟩ : ∃ c, c = (cur1.toList.take (pos * 2) ++ [Value.int .i64 t.1, Value.int .i64 t.2] ++ cur1.toList.drop (pos * 2 + 2)).toArray := ⟨_, rfl⟩
  obtain ⟨W1, hW1⟩ : ∃ W1, W1 = w.drew.setRow g cur1 := ⟨_, rfl⟩
  have hcp1 : ∀ ty dc sc, (Builtin.copy_ #[40, 40] ty #[.slice (some ⟨g, (pos + 1) * 2, none⟩) (n - pos) dc, .slice (some ⟨g, pos * 2, none⟩) (n + 1 - pos) sc]).run Try.prog w.drew = .ok (goInt ((n - pos : Nat) : Int)) W1 := fun ty dc sc => by
    rw [hW1, hcur1]
    refine run_copy_rowN w.drew _ _ ty 30 g ((pos + 1) * 2) (n - pos) dc ⟨g, pos * 2, none⟩ (n + 1 - pos) sc cur 30 (flat (l.drop pos)) 2 (n - pos) Try.underlying40 hsz G.drew (by simp only [Nat.min_def]; split <;> omega) hlr ?_ (by rw [hlr, hcs]; omega) (flat_one _)
    intro j v hj
    have hadd : (⟨g, pos * 2, none⟩ : Addr).add j = ⟨g, pos * 2 + j, none⟩ := by unfold Addr.add; split <;> simp_all
    rw [hadd]
    refine G.drew.cell _ ?_
    have hjl := (List.getElem?_eq_some_iff.1 hj).1
    rw [← Array.getElem?_toList, ← List.getElem?_take_of_lt (i := pos * 2 + j) (j := n * 2) (by omega), hrow, hfl, List.getElem?_append_right (by omega), hlx, show pos * 2 + j - pos * 2 = j by omega]
    exact hj
  have G1 : Blk W1 g cur1 30 := by rw [hW1]; exact setRow_heap _ _ _ _ _ _ G.drew
  have V1 : Blk W1 vb #[.int .i64 t.1, .int .i64 t.2] 30 := by rw [hW1]; exact (setRow_other _ _ _ _ hvb).trans V.drew
  have hs1 : cur1.size = cap * 2 := by
    rw [hcur1]
    simp only [List.size_toArray, List.length_append, List.length_take, List.length_drop, Array.length_toList, hlr, hcs]
    omega
  have hcp2 : ∀ ty dc, (Builtin.copy_ #[40, 40] ty #[.slice (some ⟨g, pos * 2, none⟩) (n + 1 - pos) dc, .slice (some ⟨vb, 0, none⟩) (1 : Nat) 1]).run Try.prog W1 = .ok (goInt ((1 : Nat) : Int)) (W1.setRow g cur2) := fun ty dc => by
    rw [hcur2]
    exact run_copy_rowN W1 _ _ ty 30 g (pos * 2) (n + 1 - pos) dc ⟨vb, 0, none⟩ 1 1 cur1 30 [.int .i64 t.1, .int .i64 t.2] 2 1 Try.underlying40 hsz G1 (by simp only [Nat.min_def]; split <;> omega) rfl (World.news_of_block V1) (by rw [hs1]; simp; omega) (by simp [Value.oneCell'])
  have hC : w.grownBy (W1.setRow g cur2) (some g) := by
    rw [hW1]
    exact gb_row (gb_row (gb_drew (gb_refl _ _)) (.inl rfl) _) (.inl rfl) _
  have hs2 : cur2.size = cap * 2 := by
    rw [hcur2]
    simp only [List.size_toArray, List.length_append, List.length_take, List.length_drop, Array.length_toList, List.length_cons, List.length_nil, hs1]
    omega
  have hrow2 : cur2.toList.take ((n + 1) * 2) = flat (l.take pos ++ t :: l.drop pos) := by
    rw [hcur2, hcur1, flat_append, flat_cons, ← List.append_assoc]
    have := moved (cur := cur.toList) (x := flat (l.take pos)) (t := [Value.int .i64 t.1, Value.int .i64 t.2]) (r := flat (l.drop pos)) (o := pos * 2) (k := 2) hlx rfl (by rw [hlr, show pos * 2 + (n - pos) * 2 = n * 2 by omega, hrow, hfl]) (by rw [hlr, Array.length_toList, hcs]; omega)
    rw [hlr, show pos * 2 + 2 + (n - pos) * 2 = (n + 1) * 2 by omega] at this
    rw [hlr, show (pos + 1) * 2 = pos * 2 + 2 by omega, show pos * 2 + 2 + (n - pos) * 2 = (n + 1) * 2 by omega]
    exact this
  have own2 : (W1.setRow g cur2).ownsRow base 30 2 (.slice (some ⟨g, 0, none⟩) (n + 1) cap) (n + 1) (flat (l.take pos ++ t :: l.drop pos)) :=
    ⟨by rw [flat_length, List.length_append, List.length_cons, List.length_take, List.length_drop]; omega, .inr ⟨g, cap, cur2, rfl, hB, setRow_heap _ _ _ _ _ _ G1, hroom, by unfold maxLen; omega, hs2, hrow2⟩⟩
  have H1 := Lib.hid hcp1
  have H2 := Lib.hid hcp2
  have H3 := Lib.hid own2
  have H4 := Lib.hid hC
  clear hcp1 hcp2 own2 hC hrow2 hs2 hs1 V1 G1 hcur1 hcur2 hfl hlx hlr hrow
  have HW := Lib.hid hW1
  clear hW1
  have hz30 : ∀ w, (Go.sizeOf 30).run Try.prog w = .ok 2 w := fun w => by kernel_rfl
  have hov : ∀ o lb cb, (callFunc 56 #[.slice (some ⟨vb, 0, none⟩) (1 : Nat) 1, .slice (some ⟨g, o, none⟩) lb cb]).run Try.prog w = .ok (.value (.bool false)) w := fun o lb cb => by
    rw [run_callFunc_extern Try.func56 (by kernel_rfl) (by kernel_rfl) (by kernel_rfl) (e := Extern.SlicesOverlaps.overlaps #[40, 40] #[4]) (by kernel_rfl),
      Lib.run_overlaps_apart w 40 4 30 Try.underlying40 2 hz30 ⟨vb, 0, none⟩ ⟨g, o, none⟩ 1 1 lb cb hvb 30 30 2 cur.size (by unfold Blk at V; simp [World.shape?, V]) (by unfold Blk at G; simp [World.shape?, G]) (by omega) (by exact V.free 0) (by exact V.free 2)]
    rfl
  clear hz30
  have h1 : ¬ ((pos : Int) = (n : Int)) := by omega
  have h2 : ¬ (cap = pos) := by omega
  have h3 : ¬ (cap = pos + 1) := by omega
  have h4 : ¬ ((cap : Int) < (n : Int) + 1) := by omega
  have h5 : (pos : Int) ≤ (n : Int) := by omega
  have h6 : (pos : Int) + 1 ≤ (n : Int) + 1 := by omega
  go_enter Try.func50, Try.ntmps50
  go_wp2_with fail
  have hw1 : IntKind.i64.wrap ((pos : Int) + 1) = (pos : Int) + 1 := IntWalk.i64_in _ (by omega)
  have hb1 : (0 : Int) ≤ (pos : Int) + 1 := by omega
  have htn : ((pos : Int) + 1).toNat = pos + 1 := by omega
  have h7 : (pos : Int) ≤ (n : Int) + 1 := by omega
  go_region_law (refine step_copy_runI rfl _ _ 40 40 rfl (.slice (some ⟨g, (pos + 1) * 2, none⟩) (n - pos) (cap - (pos + 1))) (.slice (some ⟨g, pos * 2, none⟩) (n + 1 - pos) (cap - pos)) (by simp [Act.eval, Act.put]) (by simp [Act.eval, Act.put]) (H1.out _ _ _) ?_)
  clear hw1 hb1 htn hov
  go_wp2_with (refine wpList_copy_runI (o := ⟨some 82, _, _, _, _, _⟩) _ (by rfl) _ _ 40 40 (by rfl) (.slice (some ⟨g, pos * 2, none⟩) (n + 1 - pos) (cap - pos)) (.slice (some ⟨vb, 0, none⟩) (1 : Nat) 1) (by rfl) (by rfl) (H2.out _ _) ?_)
  go_ret
  exact ⟨_, _, rfl, H4.out, H3.out⟩
end Go.Proofs.Ytjlaikmilcgmhaa
