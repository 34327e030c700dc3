/- Ranges as they lie in memory; whether they are valid. -/
import Derived.Test.YtghljfddgcclpaaYa
import Derived.Test.YtghljfddgcclpaaVb
import Derived.BigQuiet
import Derived.Deep.AppendLies
namespace Go.Proofs.Ytghljfddgcclpaa
open Go.RowKit
set_option linter.unusedVariables false

def tkG (l : RL) (i j : Nat) : Value := match j with
  | 0 => .int .i64 (l.getD i (0, 0)).1
  | _ => .int .i64 (l.getD i (0, 0)).2
def flat (l : RL) : List Value := l.flatMap fun t => [.int .i64 t.1, .int .i64 t.2]
theorem flat_snoc (l : RL) (p : Int × Int) : flat (l ++ [p]) = flat l ++ [.int .i64 p.1, .int .i64 p.2] := by simp [flat]
theorem flat_at (l : RL) : ∀ i, i < l.length → ∀ j, j < 2 → (flat l)[i * 2 + j]? = some (tkG l i j) := by
  induction l with
  | nil => intro i hi; simp at hi
  | cons a l ih =>
    have e : flat (a :: l) = .int .i64 a.1 :: .int .i64 a.2 :: flat l := rfl
    intro i hi j hj
    rw [e]
    cases i with
    | zero =>
      match j, hj with
      | 0, _ => simp [tkG]
      | 1, _ => simp [tkG]
    | succ i =>
      rw [show (i + 1) * 2 + j = (i * 2 + j) + 1 + 1 by omega]
      have := ih i (by simpa using hi) j hj
      simp only [List.getElem?_cons_succ]
      rw [this]
      match j, hj with
      | 0, _ => simp [tkG]
      | 1, _ => simp [tkG]
theorem infoRn : (Try.prog.info? 39).map (fun i => (i.zero, i.size, i.bytes)) = some (some (.agg #[.int .i64 0, .int .i64 0]), 2, 16) := by kernel_rfl
theorem row_sl {w : World} {base n cap : Nat} {a : Option Addr} {l : RL} (h : w.ownsRow base 39 2 (.slice a n cap) n (flat l)) (hl : l.length = n) (hn : n ≤ 1048576) : Sl 2 w w.heap.size a n (tkG l) :=
  (ow_of_row h (by omega) (fun i hi j hj => flat_at l i (by omega) j hj)).sl
theorem own_rng {w : World} {base b : Nat} (h : Blk w b #[] 39) (hb : base ≤ b) : w.ownsRow base 39 2 (.slice (some ⟨b, 0, none⟩) (0 : Nat) 0) 0 (flat []) :=
  ⟨rfl, .inr ⟨b, 0, #[], rfl, hb, h, Nat.le_refl _, by unfold maxLen; omega, rfl, rfl⟩⟩
theorem drop_at {l : RL} {k : Nat} {r : Int × Int} (hk : k < l.length) (hr : l.getD k (0, 0) = r) : l.drop k = r :: l.drop (k + 1) := by
  rw [List.drop_eq_getElem_cons hk]
  rw [List.getD_eq_getElem?_getD, List.getElem?_eq_getElem hk] at hr
  rw [← hr]; rfl
theorem take_at {l : RL} {k : Nat} {r : Int × Int} (hk : k < l.length) (hr : l.getD k (0, 0) = r) : l.take (k + 1) = l.take k ++ [r] := by
  rw [List.take_succ_eq_append_getElem hk]
  rw [List.getD_eq_getElem?_getD, List.getElem?_eq_getElem hk] at hr
  rw [← hr]; rfl
theorem rok_long {l : RL} (h : 16 < l.length) : rOk l = false := by
  unfold rOk; rw [decide_eq_false (by omega)]; rfl
theorem rok_chn {l : RL} (h : chn (-2) l = false) : rOk l = false := by
  unfold rOk; rw [h, Bool.and_false]
theorem chn_no {p : Int} {r : Int × Int} {l : RL} (h : ¬ (p + 2 ≤ r.1 ∧ r.1 ≤ r.2 ∧ r.2 ≤ 999)) : chn p (r :: l) = false := by
  cases e : chn p (r :: l)
  · rfl
  · exact absurd (chn_cons.1 e).1 h
theorem chn_go {p : Int} {r : Int × Int} {l : RL} (h : p + 2 ≤ r.1 ∧ r.1 ≤ r.2 ∧ r.2 ≤ 999) : chn p (r :: l) = chn r.2 l := by
  show ((decide (p + 2 ≤ r.1) && decide (r.1 ≤ r.2) && decide (r.2 ≤ 999)) && chn r.2 l) = _
  rw [decide_eq_true h.1, decide_eq_true h.2.1, decide_eq_true h.2.2]; rfl

set_option maxHeartbeats 4000000 in
theorem rvalid_impl (a : Option Addr) (n cap : Nat) (l : RL) (w : World) (hl : l.length = n) (S : Sl 2 w w.heap.size a n (tkG l)) :
    Calls Try.prog 11 #[.slice a n cap] w fun e w' => e = .returned (.bool (rOk l)) ∧ Below w.heap.size w w' := by
  have hn := S.len
  by_cases h16 : 16 < n
  · have E := rok_long (l := l) (by omega)
    rw [E]
    have hi : (16 : Int) < (n : Int) := by omega
    clear S
    go_enter Try.func11, Try.ntmps11
    go_wp2
    go_ret
    exact ⟨rfl, Below.refl _ _⟩
  have hi : ¬ (16 : Int) < (n : Int) := by omega
  have HS := Lib.hid S
  have hb0 := Below.refl w.heap.size w
  obtain ⟨V, hV⟩ : ∃ x, rOk l = x := ⟨_, rfl⟩
  rw [hV]
  have HV := Lib.hid hV
  clear S hV
  go_enter Try.func11, Try.ntmps11
  go_wp2_with fail
  go_loopw [3, 11] (fun s i wr => ∃ (k : Nat) (p : Int), k ≤ n ∧ i = .int .i64 k ∧ s = .int .i64 p ∧ -2 ≤ p ∧ p ≤ 999 ∧ chn (-2) l = chn p (l.drop k) ∧ Below w.heap.size w wr) (fun _ i _ => n - (intOf i).toNat)
  case atStart => exact ⟨0, -2, by omega, rfl, rfl, by omega, by omega, rfl, hb0⟩
  case round =>
    obtain ⟨k, p, hk, rfl, rfl, hp1, hp2, hc, hbk⟩ := hrel
    have HC := Lib.hid hc
    clear hb0 hc
    by_cases hlt : k < n
    · have hki : (k : Int) < (n : Int) := by omega
      obtain ⟨b, off, rfl, hB, hcl⟩ := (HS.out.below hbk).at hlt
      have x0 := hcl k hlt 0 (by omega)
      have x1 := hcl k hlt 1 (by omega)
      obtain ⟨r, hr⟩ : ∃ p, l.getD k (0, 0) = p := ⟨_, rfl⟩
      simp only [tkG, Nat.add_zero, hr] at x0 x1
      have hd := drop_at (by omega) hr
      have hb1 := bpush hbk (Obj.cells #[.int .i64 r.1, .int .i64 r.2] 39)
      have HD := Lib.hid hd
      clear hcl hr hd
      by_cases h1 : r.1 < p + 2
      · have hV : V = false := by rw [← HV.out]; exact rok_chn (by rw [HC.out, HD.out]; exact chn_no (by omega))
        subst hV
        go_wp2_with fail
        go_ret
        exact ⟨rfl, hb1⟩
      · by_cases h2 : r.2 < r.1
        · have hV : V = false := by rw [← HV.out]; exact rok_chn (by rw [HC.out, HD.out]; exact chn_no (by omega))
          subst hV
          go_wp2_with fail
          go_ret
          exact ⟨rfl, hb1⟩
        · by_cases h3 : 999 < r.2
          · have hV : V = false := by rw [← HV.out]; exact rok_chn (by rw [HC.out, HD.out]; exact chn_no (by omega))
            subst hV
            go_wp2_with fail
            go_ret
            exact ⟨rfl, hb1⟩
          · have hg : chn (-2) l = chn r.2 (l.drop (k + 1)) := by rw [HC.out, HD.out]; exact chn_go (by omega)
            have HG := Lib.hid hg
            clear hg
            go_wp2_with fail
            go_roundw
            case rel => exact ⟨k + 1, r.2, by omega, by go_num, rfl, by omega, by omega, HG.out, hb1⟩
            case measure => simp [intOf]; omega
    · obtain rfl : k = n := by omega
      have hV : V = true := by
        rw [← HV.out]
        refine rok_mk (by omega) ?_
        rw [HC.out, List.drop_of_length_le (by omega)]; rfl
      subst hV
      go_wp2_with fail
      go_ret
      exact ⟨rfl, hbk⟩

def prv (l : RL) (k : Nat) : Int := match k with
  | 0 => -2
  | j + 1 => (l.getD j (0, 0)).2

set_option maxHeartbeats 8000000 in
theorem rvalid_spec (a : Option Addr) (n cap : Nat) (l : RL) (w : World) (hl : l.length = n) (S : Sl 2 w w.heap.size a n (tkG l)) :
    Calls Try.prog 17 #[.slice a n cap] w fun e w' => e = .returned (.bool (rOk l)) ∧ Below w.heap.size w w' := by
  have hn := S.len
  have HS := Lib.hid S
  have hb0 := Below.refl w.heap.size w
  obtain ⟨V, hV⟩ : ∃ x, rOk l = x := ⟨_, rfl⟩
  rw [hV]
  have HV := Lib.hid hV
  clear S hV
  go_enter Try.func17, Try.ntmps17
  go_wp2_with fail
  go_loopw [3] (fun i wr => ∃ (k : Nat), k ≤ n ∧ i = .int .i64 k ∧ (-2 ≤ prv l k ∧ prv l k ≤ 999) ∧ chn (-2) l = chn (prv l k) (l.drop k) ∧ Below w.heap.size w wr) (fun i _ => n - (intOf i).toNat)
  case atStart => exact ⟨0, by omega, rfl, by simp [prv], rfl, hb0⟩
  case round =>
    obtain ⟨k, hk, rfl, ⟨hp1, hp2⟩, hc, hbk⟩ := hrel
    have HC := Lib.hid hc
    clear hb0 hc
    by_cases hlt : k < n
    · have hki : (k : Int) < (n : Int) := by omega
      obtain ⟨b, off, rfl, hB, hcl⟩ := (HS.out.below hbk).at hlt
      have x0 := hcl k hlt 0 (by omega)
      have x1 := hcl k hlt 1 (by omega)
      have HCL := Lib.hid hcl
      obtain ⟨r, hr⟩ : ∃ p, l.getD k (0, 0) = p := ⟨_, rfl⟩
      simp only [tkG, Nat.add_zero, hr] at x0 x1
      have hd := drop_at (by omega) hr
      have HD := Lib.hid hd
      have HRR := Lib.hid hr
      clear hcl hr hd
      have hno : ¬ (prv l k + 2 ≤ r.1 ∧ r.1 ≤ r.2 ∧ r.2 ≤ 999) → V = false := fun h => by rw [← HV.out]; exact rok_chn (by rw [HC.out, HD.out]; exact chn_no h)
      have HNO := Lib.hid hno
      have hgo : (prv l k + 2 ≤ r.1 ∧ r.1 ≤ r.2 ∧ r.2 ≤ 999) → prv l (k + 1) = r.2 ∧ chn (-2) l = chn r.2 (l.drop (k + 1)) := fun h => ⟨HRR.out ▸ rfl, by rw [HC.out, HD.out]; exact chn_go h⟩
      have HGO := Lib.hid hgo
      clear hno hgo
      by_cases h1 : r.1 < 0
      · have d1 : decide (r.1 < 0) = true := decide_eq_true h1
        have hV := HNO.out (by omega)
        subst hV
        go_wp2_with fail
        go_quiet (fail)
        go_wp2_with fail
        go_ret
        exact ⟨rfl, bdrewN hbk _⟩
      · have d1 : decide (r.1 < 0) = false := decide_eq_false h1
        by_cases h2 : r.2 < r.1
        · have d2 : decide (r.2 < r.1) = true := decide_eq_true h2
          have hV := HNO.out (by omega)
          subst hV
          go_wp2_with fail
          go_quiet (fail)
          go_wp2_with fail
          go_ret
          exact ⟨rfl, bdrewN hbk _⟩
        · have d2 : decide (r.2 < r.1) = false := decide_eq_false h2
          by_cases h3 : 999 < r.2
          · have d3 : decide (999 < r.2) = true := decide_eq_true h3
            have hV := HNO.out (by omega)
            subst hV
            go_wp2_with fail
            go_quiet (fail)
            go_wp2_with fail
            go_ret
            exact ⟨rfl, bdrewN hbk _⟩
          · have d3 : decide (999 < r.2) = false := decide_eq_false h3
            rcases Nat.eq_zero_or_pos k with hz | hpos
            · have hpk : prv l k = -2 := by rw [hz]; rfl
              have d4 : decide ((0 : Int) < (k : Int)) = false := decide_eq_false (by omega)
              have d5 : decide (0 < k) = false := decide_eq_false (by omega)
              obtain ⟨G1, G2⟩ := HGO.out (by rw [hpk]; omega)
              clear hz hpk hp1 hp2
              have HG1 := Lib.hid G1
              have HG2 := Lib.hid G2
              clear G1 G2
              go_wp2_with fail
              go_quiet (fail)
              go_wp2_with fail
              go_roundw
              case rel => exact ⟨k + 1, by omega, by go_num, by rw [HG1.out]; omega, by rw [HG1.out]; exact HG2.out, bdrewN hbk _⟩
              case measure => simp [intOf]; omega
            · obtain ⟨j, rfl⟩ : ∃ j, k = j + 1 := ⟨k - 1, by omega⟩
              have y1 := HCL.out j (by omega) 1 (by omega)
              obtain ⟨q, hq⟩ : ∃ p, l.getD j (0, 0) = p := ⟨_, rfl⟩
              have hpv : prv l (j + 1) = q.2 := by rw [← hq]; rfl
              rw [hpv] at hp1 hp2
              simp only [tkG, hq] at y1
              have HQ := Lib.hid hpv
              clear hq hpv
              have d4 : decide ((0 : Int) < (j : Int) + 1) = true := decide_eq_true (by omega)
              have g4 : IntKind.i64.wrap ((j : Int) + 1 - 1) = j := by rw [IntWalk.i64_in _ (by omega)]; omega
              have g5 : IntKind.i64.wrap (j : Int) = j := IntWalk.i64_in _ (by omega)
              have g6 : (j : Int) < (n : Int) := by omega
              by_cases h5 : r.1 < q.2 + 2
              · have d5 : decide (r.1 < q.2 + 2) = true := decide_eq_true h5
                have hV := HNO.out (by rw [HQ.out]; omega)
                subst hV
                go_wp2_with fail
                go_quiet (fail)
                go_wp2_with fail
                go_ret
                exact ⟨rfl, bdrewN hbk _⟩
              · have d5 : decide (r.1 < q.2 + 2) = false := decide_eq_false h5
                obtain ⟨G1, G2⟩ := HGO.out (by rw [HQ.out]; omega)
                have HG1 := Lib.hid G1
                have HG2 := Lib.hid G2
                clear G1 G2
                go_wp2_with fail
                go_quiet (fail)
                go_wp2_with fail
                go_roundw
                case rel => exact ⟨j + 1 + 1, by omega, by go_num, by rw [HG1.out]; omega, by rw [HG1.out]; exact HG2.out, bdrewN hbk _⟩
                case measure => simp [intOf]; omega
    · obtain rfl : k = n := by omega
      have hV : V = decide ((k : Int) ≤ 16) := by
        rw [← HV.out]
        unfold rOk
        rw [HC.out, List.drop_of_length_le (by omega), hl]
        show (decide (k ≤ 16) && true) = _
        rw [Bool.and_true, decide_eq_decide]; omega
      subst hV
      go_wp2_with fail
      go_ret
      exact ⟨rfl, hbk⟩
theorem isR_c (low high : Int) (w : World) :
    Calls Try.prog 14 #[.int .i64 low, .int .i64 high] w fun e w' => e = .returned (.bool (span low high)) ∧ w = w' := by
  by_cases h1 : 0 ≤ low <;> by_cases h2 : low ≤ high <;> by_cases h3 : high ≤ 999
  all_goals
    go_enter Try.func14, Try.ntmps14
    go_wp2
    go_ret
    exact ⟨by simp [span, inB, h1, h2, h3], rfl⟩
theorem l2span_c (low high : Int) (w : World) :
    Calls Try.prog 18 #[.int .i64 low, .int .i64 high] w fun e w' => e = .returned (.bool (span low high)) ∧ w = w' := by
  by_cases h1 : 0 ≤ low <;> by_cases h2 : low ≤ high <;> by_cases h3 : high ≤ 999
  all_goals
    go_enter Try.func18, Try.ntmps18
    go_wp2
    go_ret
    exact ⟨by simp [span, inB, h1, h2, h3], rfl⟩
end Go.Proofs.Ytghljfddgcclpaa
