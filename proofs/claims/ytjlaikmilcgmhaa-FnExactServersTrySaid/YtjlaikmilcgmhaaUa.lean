/- Servers in memory of one's own; servers compared, measured, opened. -/
import Derived.Test.YtjlaikmilcgmhaaSc
import Derived.Test.YtjlaikmilcgmhaaGf
import Derived.Test.YtjlaikmilcgmhaaGg
namespace Go.Proofs.Ytjlaikmilcgmhaa
open Go.RowKit Go.ChangeShapes Go.WideShapes Go.Deep
set_option linter.unusedVariables false
attribute [local go_sem ↓] Go.wp_at_zero Go.wp_at_succ

/-- A slice in a block below H that is not b. -/
def Apt (H b : Nat) (a : Option Addr) (n : Nat) : Prop := n = 0 ∨ ∃ b', a = some ⟨b', 0, none⟩ ∧ b' < H ∧ b' ≠ b
/-- No two slices of tickets lie in one block. -/
def DJ (sl : SR) : Prop := ∀ i j, i < sl.length → j < sl.length → i ≠ j → 0 < (sl.getD i (0, [], none, 0)).2.1.length → 0 < (sl.getD j (0, [], none, 0)).2.1.length → (sl.getD i (0, [], none, 0)).2.2.1 ≠ (sl.getD j (0, [], none, 0)).2.2.1
theorem dj_nil : DJ [] := fun i j hi => by simp at hi
theorem getD_snoc_lt {α : Type} {l : List α} {x d : α} {i : Nat} (h : i < l.length) : (l ++ [x]).getD i d = l.getD i d := by
  rw [List.getD_eq_getElem?_getD, List.getD_eq_getElem?_getD, List.getElem?_append_left h]
theorem getD_snoc_eq {α : Type} {l : List α} {x d : α} : (l ++ [x]).getD l.length d = x := by
  rw [List.getD_eq_getElem?_getD, List.getElem?_append_right (Nat.le_refl _)]; simp
theorem dj_snoc {sl : SR} {t : Int × TL × Option Addr × Nat} (h : DJ sl) (hn : ∀ u ∈ sl, 0 < u.2.1.length → 0 < t.2.1.length → u.2.2.1 ≠ t.2.2.1) : DJ (sl ++ [t]) := by
  intro i j hi hj hne h1 h2
  rw [List.length_append, List.length_singleton] at hi hj
  by_cases ei : i = sl.length
  · subst ei
    have hj' : j < sl.length := by omega
    rw [getD_snoc_eq] at h1 ⊢
    rw [getD_snoc_lt hj'] at h2 ⊢
    exact (hn _ (getD_mem hj') h2 h1).symm
  · have hi' : i < sl.length := by omega
    rw [getD_snoc_lt hi'] at h1 ⊢
    by_cases ej : j = sl.length
    · subst ej
      rw [getD_snoc_eq] at h2 ⊢
      exact hn _ (getD_mem hi') h1 h2
    · have hj' : j < sl.length := by omega
      rw [getD_snoc_lt hj'] at h2 ⊢
      exact h i j hi' hj' hne h1 h2
theorem dj_set {sl : SR} {t : Int × TL × Option Addr × Nat} {k : Nat} (h : DJ sl) (hk : k < sl.length) (hn : ∀ u ∈ sl, 0 < u.2.1.length → 0 < t.2.1.length → u.2.2.1 ≠ t.2.2.1) : DJ (sl.set k t) := by
  intro i j hi hj hne h1 h2
  rw [List.length_set] at hi hj
  rw [getD_set hk] at h1 h2 ⊢
  rw [getD_set hk]
  by_cases ei : i = k
  · rw [if_pos ei] at h1 ⊢
    have ej : ¬ j = k := by omega
    rw [if_neg ej] at h2 ⊢
    exact (hn _ (getD_mem hj) h2 h1).symm
  · rw [if_neg ei] at h1 ⊢
    by_cases ej : j = k
    · rw [if_pos ej] at h2 ⊢
      exact hn _ (getD_mem hi) h1 h2
    · rw [if_neg ej] at h2 ⊢
      exact h i j hi hj hne h1 h2
/-- Servers in blocks of one's own, from B to H. -/
def Rw (w : World) (B H : Nat) (a : Option Addr) (sl : SR) : Prop :=
  sl = [] ∨ ∃ (b : Nat) (cs : Array Value), a = some ⟨b, 0, none⟩ ∧ B ≤ b ∧ b < H ∧ Blk w b cs 42 ∧ sl.length * 2 ≤ cs.size ∧
    (∀ i, i < sl.length → cs[i * 2]? = some (.int .i64 (sl.getD i (0, [], none, 0)).1) ∧ cs[i * 2 + 1]? = some (inS (sl.getD i (0, [], none, 0)))) ∧
    (∀ t ∈ sl, t.2.1.length ≤ 1048576 ∧ Apt H b t.2.2.1 t.2.1.length ∧ Ow 2 w B t.2.2.1 t.2.1.length (tkG t.2.1)) ∧ DJ sl
section
variable {w w' : World} {B B' H : Nat} {a : Option Addr} {sl : SR}
theorem Rw.below (h : Rw w B H a sl) (hb : Below w.heap.size w w') : Rw w' B H a sl := by
  rcases h with h | ⟨b, cs, e, h1, h2, hk, hs, hc, hi, hd⟩
  · exact .inl h
  · exact .inr ⟨b, cs, e, h1, h2, hk.below hb, hs, hc, fun t m => ⟨(hi t m).1, (hi t m).2.1, (hi t m).2.2.below hb⟩, hd⟩
theorem Rw.mono (h : Rw w B H a sl) (hB : B' ≤ B) : Rw w B' H a sl := by
  rcases h with h | ⟨b, cs, e, h1, h2, hk, hs, hc, hi, hd⟩
  · exact .inl h
  · exact .inr ⟨b, cs, e, by omega, h2, hk, hs, hc, fun t m => ⟨(hi t m).1, (hi t m).2.1, (hi t m).2.2.mono hB⟩, hd⟩
theorem Rw.chg {lo hi : Nat} (h : Rw w B H a sl) (k : Chg lo hi w w') (hB : hi ≤ B) : Rw w' B H a sl := by
  rcases h with h | ⟨b, cs, e, h1, h2, hk, hs, hc, hi, hd⟩
  · exact .inl h
  · exact .inr ⟨b, cs, e, h1, h2, hk.chg k (.inr (by omega)), hs, hc, fun t m => ⟨(hi t m).1, (hi t m).2.1, (hi t m).2.2.chg k hB⟩, hd⟩
theorem Rw.rd (h : Rw w B H a sl) (hn : sl.length ≤ 1048576) : Sl 2 w w.heap.size a sl.length (nsG (srvs sl) fun i => (sl.getD i (0, [], none, 0)).2.2) := by
  rcases h with rfl | ⟨b, cs, e, h1, h2, hk, hs, hc, hi, hd⟩
  · exact ⟨by simp, .inl rfl⟩
  · refine ⟨by omega, .inr ⟨b, 0, e, hk.lt, fun i hi' j hj => ?_⟩⟩
    rw [Nat.zero_add]
    obtain ⟨c1, c2⟩ := hc i hi'
    match j, hj with
    | 0, _ => rw [Nat.add_zero, hk.cell _ c1]; simp only [nsG, srvs_at]
    | 1, _ => rw [hk.cell _ c2]; simp only [nsG, srvs_at, inS]
theorem Rw.in (h : Rw w B H a sl) : ∀ t ∈ sl, t.2.1.length ≤ 1048576 ∧ Ow 2 w B t.2.2.1 t.2.1.length (tkG t.2.1) := by
  rcases h with rfl | ⟨b, cs, e, h1, h2, hk, hs, hc, hi, hd⟩
  · intro t m; cases m
  · exact fun t m => ⟨(hi t m).1, (hi t m).2.2⟩
theorem Rw.nr (h : Rw w B H a sl) (hn : sl.length ≤ 1048576) : Nr w w.heap.size a sl.length (srvs sl) :=
  ⟨srvs_len sl, fun i => (sl.getD i (0, [], none, 0)).2.2, h.rd hn, fun i hi => by rw [srvs_at]; exact (h.in _ (getD_mem hi)).2.sl⟩
theorem Rw.ns (h : Rw w B H a sl) (hn : sl.length ≤ 1048576) (hc : ∀ t ∈ sl, t.2.1.length ≤ t.2.2.2) : Ns 2 tkG w w.heap.size a sl.length (srvs sl) :=
  ⟨srvs_len sl, fun i => (sl.getD i (0, [], none, 0)).2.2, h.rd hn, fun i hi => by rw [srvs_at]; exact ⟨hc _ (getD_mem hi), (h.in _ (getD_mem hi)).2.sl⟩⟩
end

set_option maxHeartbeats 1000000 in
theorem eqRS_c (a a' : Option Addr) (n cap cap' : Nat) (bs : SV) (w : World) (HB : Nr w w.heap.size a n bs) (HB' : Nr w w.heap.size a' n bs) :
    Calls Try.prog 13 #[.slice a n cap, .slice a' n cap'] w fun e w' => e = .returned (.bool true) ∧ Below w.heap.size w w' := by
  have hn := HB.len
  have HN := Lib.hid HB
  have HN' := Lib.hid HB'
  have hb0 := Below.refl w.heap.size w
  clear HB HB'
  go_enter Try.func13, Try.ntmps13
  go_wp2_with fail
  go_loopw [5] (fun i wr => ∃ k : Nat, k ≤ n ∧ i = .int .i64 k ∧ Below w.heap.size w wr) (fun i _ => n - (intOf i).toNat)
  case atStart => exact ⟨0, by omega, rfl, hb0⟩
  case round =>
    obtain ⟨k, hk, rfl, hbk⟩ := hrel
    clear hb0
    by_cases hlt : k < n
    · have hki : (k : Int) < (n : Int) := by omega
      obtain ⟨b, off, a2, c2, rfl, hB, x0, x1, hs⟩ := (HN.out.below hbk).at hlt
      obtain ⟨b', off', a3, c3, rfl, hB', y0, y1, hs'⟩ := (HN'.out.below hbk).at hlt
      obtain ⟨bx, hbx⟩ : ∃ p, bs.getD k (0, []) = p := ⟨_, rfl⟩
      rw [hbx] at x0 x1 hs y0 y1 hs'
      have HE := Lib.hid (eqReg_c bx.1 a2 a3 bx.2.length c2 c3 bx.2 wr.drew (hs.mono hbk.size) (hs'.mono hbk.size))
      clear hbx hs hs' HN HN'
      go_wp2_with fail
      go_region_law (first | (go_simp; go_at_call 20; with_reducible refine HE.out.mono ?_; rintro e1 w2 ⟨rfl, hb2⟩))
      all_goals
        go_wp2_with fail
        go_roundw
        case rel => exact ⟨k + 1, by omega, by go_num, bstep (bdrew hbk) hb2⟩
        case measure => simp [intOf]; omega
    · obtain rfl : k = n := by omega
      go_wp2_with fail
      go_ret
      exact ⟨rfl, hbk⟩

def totS (bs : SV) : Nat := bs.length + (bs.map fun b => b.2.length).sum
def sumS (bs : SV) (k : Nat) : Nat := ((bs.take k).map fun b => b.2.length).sum
theorem le_sum {l : List Nat} {x : Nat} (h : x ∈ l) : x ≤ l.sum := by
  induction l with
  | nil => cases h
  | cons a l ih =>
    rcases List.mem_cons.1 h with rfl | h
    · simp
    · have := ih h; simp; omega
theorem totS_len {bs : SV} {k : Nat} (hk : k < bs.length) : (bs.getD k (0, [])).2.length ≤ totS bs := by
  have : (bs.getD k (0, [])).2.length ∈ bs.map fun b => b.2.length := List.mem_map.2 ⟨_, getD_mem hk, rfl⟩
  have := le_sum this
  unfold totS; omega
theorem sumS_succ {bs : SV} {k : Nat} (hk : k < bs.length) : sumS bs (k + 1) = sumS bs k + (bs.getD k (0, [])).2.length := by
  unfold sumS; rw [take_snoc (d := (0, [])) hk]; simp
theorem sumS_all (bs : SV) : totS bs = bs.length + sumS bs bs.length := by unfold totS sumS; rw [List.take_length]
theorem sumS_le (bs : SV) (k : Nat) : sumS bs k ≤ sumS bs bs.length := by
  unfold sumS
  rw [List.take_length]
  have h2 : (bs.map fun b => b.2.length).sum = ((bs.take k).map fun b => b.2.length).sum + ((bs.drop k).map fun b => b.2.length).sum := by
    rw [← List.sum_append, ← List.map_append, List.take_append_drop]
  omega
set_option maxHeartbeats 1000000 in
theorem szRS_c (left : Int) (a : Option Addr) (n cap : Nat) (bs : SV) (w : World) (h0 : 0 ≤ left) (h1 : left ≤ 1048576) (HB : Nr w w.heap.size a n bs) :
    Calls Try.prog 8 #[.slice a n cap, .int .i64 left] w fun e w' => ∃ r : Int, e = .returned (.int .i64 r) ∧ (r = -1 ∨ (0 ≤ r ∧ r + totS bs = left)) ∧ Below w.heap.size w w' := by
  have hn := HB.len
  have hnl := HB.length
  by_cases hlt0 : left < (n : Int)
  · clear HB
    go_enter Try.func8, Try.ntmps8
    go_wp2_with fail
    go_ret
    exact ⟨_, rfl, .inl rfl, Below.refl _ _⟩
  have HN := Lib.hid HB
  have HT := Lib.hid (sumS_all bs)
  clear HB
  go_enter Try.func8, Try.ntmps8
  go_wp2_with fail
  go_loopw [1, 5] (fun q i wr => ∃ (k : Nat) (r : Int), k ≤ n ∧ i = .int .i64 k ∧ q = .int .i64 r ∧ 0 ≤ r ∧ r + n + sumS bs k = left ∧ Below w.heap.size w wr) (fun _ i _ => n - (intOf i).toNat)
  case atStart => exact ⟨0, left - n, by omega, rfl, by first | rfl | (congr 1), by omega, by simp [sumS], Below.refl _ _⟩
  case round =>
    obtain ⟨k, r, hk, rfl, rfl, hr0, hr, hbk⟩ := hrel
    by_cases hlt : k < n
    · have hki : (k : Int) < (n : Int) := by omega
      obtain ⟨b, off, a2, c2, rfl, hB, x0, x1, hs⟩ := (HN.out.below hbk).at hlt
      have hsk := sumS_succ (bs := bs) (k := k) (by omega)
      have hls := hs.len
      obtain ⟨bx, hbx⟩ : ∃ p, bs.getD k (0, []) = p := ⟨_, rfl⟩
      rw [hbx] at x0 x1 hs hsk hls
      have HS := Lib.hid hsk
      have HZ := Lib.hid (szReg_c bx.1 r a2 bx.2.length c2 wr hr0 (by omega) hls)
      clear hbx hs hsk
      by_cases hz : r < (bx.2.length : Int)
      · have E : szF r bx.2.length = -1 := by unfold szF; rw [if_pos hz]
        rw [E] at HZ
        clear E
        go_wp2_with fail
        refine HZ.out.mono ?_
        rintro e w2 ⟨rfl, hb2⟩
        go_wp2_with fail
        go_ret
        exact ⟨_, rfl, .inl rfl, bstep hbk hb2⟩
      · have E : szF r bx.2.length = r - bx.2.length := by unfold szF; rw [if_neg hz]
        rw [E] at HZ
        clear E
        obtain ⟨r2, hr2⟩ : ∃ r2, r - (bx.2.length : Int) = r2 := ⟨_, rfl⟩
        rw [hr2] at HZ
        have hr3 : 0 ≤ r2 := by omega
        have hr5 : ¬ r2 < 0 := by omega
        have HR := Lib.hid hr2
        clear hr2
        go_wp2_with fail
        refine HZ.out.mono ?_
        rintro e w2 ⟨rfl, hb2⟩
        go_wp2_with fail
        go_roundw
        case rel => exact ⟨k + 1, r2, by omega, by go_num, rfl, hr3, by rw [HS.out]; have := HR.out; omega, bstep hbk hb2⟩
        case measure => simp [intOf]; omega
    · obtain rfl : k = n := by omega
      go_wp2_with fail
      go_ret
      refine ⟨_, rfl, .inr ⟨hr0, ?_⟩, hbk⟩
      rw [HT.out, hnl]; omega

theorem open_rgs {H : Type} {enc : TypeId × Value → H} {P : Program} {w : World} {base : Nat} {spare : Nat → Bool} {held : Bool} {t e ti ts te : TypeId} {f0 f1 g0 g1 : Field} {fuel : Nat} {v : Value} {x : DataW H × List MemPlace}
    (ht : P.underlying t = some (.slice e)) (he : P.underlying e = some (.struct #[f0, f1])) (hone : oneCellFields P #[f0, f1] = true) (hC : P.cellsOf e = 2)
    (h0 : f0.type = ti) (h1 : f1.type = ts) (hti : P.underlying ti = some (.int .i64)) (hts : P.underlying ts = some (.slice te)) (hte : P.underlying te = some (.struct #[g0, g1])) (hone' : oneCellFields P #[g0, g1] = true) (hCe : P.cellsOf te = 2) (hg0 : g0.type = ti) (hg1 : g1.type = ti)
    (h : DataW.trod enc P w base spare held fuel t [v] = some x) :
    ∃ (a : Option Addr) (n cap : Nat) (bs : SV), v = .slice a n cap ∧ Nr w w.heap.size a n bs := by
  rcases open_slice_fields ht he hone hC h with ⟨hv, _⟩ | ⟨a, len, cap, m, D, Pl, hv, _, hl, hm, hmm, _, hi⟩
  · simp at hv
    exact ⟨_, _, _, [], hv, Nr.nil _ _ _⟩
  · simp at hv
    have hle : len ≤ m := by rw [hmm]; split <;> omega
    have key : ∀ i, i < len → ∃ p : Int × TL × Option Addr × Nat, w.cell? (a.add (i * 2)) = some (.int .i64 p.1) ∧ w.cell? (a.add (i * 2 + 1)) = some (inS p) ∧ Sl 2 w w.heap.size p.2.2.1 p.2.1.length (tkG p.2.1) := by
      intro i hi'
      obtain ⟨ys, n, _, _, _, hf⟩ := hi i (by omega)
      obtain ⟨v0, y0, c0, _, t0⟩ := hf 0 f0 rfl
      obtain ⟨v1, y1, c1, _, t1⟩ := hf 1 f1 rfl
      rw [h0] at t0; rw [h1] at t1
      obtain ⟨z0, e0, _, _⟩ := DataW.trod_int hti t0
      simp at e0
      subst e0
      obtain ⟨a1, n1, q1, l1, e1, hl1, s1⟩ := open_tks hts hte hone' hCe hg0 hg1 hti t1
      subst e1 hl1
      exact ⟨(z0, l1, a1, q1), c0, c1, s1⟩
    obtain ⟨l, hll, hR⟩ := list_of (0, [], none, 0) len key
    unfold maxLen at hm
    refine ⟨_, _, _, srvs l, hv, by rw [srvs_len]; exact hll, fun i => (l.getD i (0, [], none, 0)).2.2, ⟨by omega, ?_⟩, fun i hi' => ?_⟩
    · by_cases hz : len = 0
      · exact .inl hz
      · obtain ⟨b, off, spot⟩ := a
        obtain ⟨cz, _⟩ := hR 0 (by omega)
        have hspot : spot = none := by simpa [Addr.add] using World.cell?_spot cz
        subst hspot
        refine .inr ⟨b, off, rfl, by simpa [Addr.add] using World.block_lt_of_cell? _ _ cz, fun i hi' j hj => ?_⟩
        obtain ⟨q0, q1, _⟩ := hR i hi'
        have hadd : ∀ k, (⟨b, off, none⟩ : Addr).add k = ⟨b, off + k, none⟩ := fun k => by unfold Addr.add; split <;> simp_all
        rw [hadd] at q0 q1
        match j, hj with
        | 0, _ => rw [Nat.add_zero, q0]; simp only [nsG, srvs_at]
        | 1, _ => rw [Nat.add_assoc, q1]; simp only [nsG, srvs_at, inS]
    · rw [srvs_at]
      obtain ⟨_, _, q3⟩ := hR i hi'
      exact q3
end Go.Proofs.Ytjlaikmilcgmhaa
