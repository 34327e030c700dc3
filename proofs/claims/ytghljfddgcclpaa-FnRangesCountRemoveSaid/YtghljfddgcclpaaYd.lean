/- Removing numbers from ranges: both programs; two lists of ranges that are the same. -/
import Derived.Test.YtghljfddgcclpaaYc
namespace Go.Proofs.Ytghljfddgcclpaa
open Go.RowKit
set_option linter.unusedVariables false

theorem few_yes (a : Option Addr) (n cap : Nat) (w : World) (h : n ≤ 16) :
    Calls Try.prog 15 #[.slice a n cap] w fun e w' => e = .returned (.tuple #[.slice a n cap, .bool true]) ∧ w = w' := by
  have hi : ¬ (16 : Int) < (n : Int) := by omega
  go_enter Try.func15, Try.ntmps15
  go_wp2
  refine bodyPost_ret (v := .tuple #[.slice a n cap, .bool true]) ?_ rfl ⟨rfl, rfl⟩
  simp only [results, Try.results15]
  go_simp
theorem few_no (a : Option Addr) (n cap : Nat) (w : World) (h : ¬ n ≤ 16) :
    Calls Try.prog 15 #[.slice a n cap] w fun e w' => e = .returned (.tuple #[.slice none 0 0, .bool false]) ∧ w = w' := by
  have hi : (16 : Int) < (n : Int) := by omega
  go_enter Try.func15, Try.ntmps15
  go_wp2
  refine bodyPost_ret (v := .tuple #[.slice none 0 0, .bool false]) ?_ rfl ⟨rfl, rfl⟩
  simp only [results, Try.results15]
  go_simp
theorem remS_no {l : RL} {low high : Int} (h : remOk l low high = false) : remS l low high = [] := by
  unfold remS; rw [if_neg (by rw [h]; simp)]
theorem remOk_v {l : RL} {low high : Int} (h : rOk l = false) : remOk l low high = false := by unfold remOk; rw [h]; rfl
theorem remOk_s {l : RL} {low high : Int} (h : span low high = false) : remOk l low high = false := by unfold remOk; rw [h, Bool.and_false]; rfl
theorem remOk_l {l : RL} {low high : Int} (h : ¬ (rem low high l).length ≤ 16) : remOk l low high = false := by unfold remOk; rw [decide_eq_false h, Bool.and_false]
theorem remOk_y {l : RL} {low high : Int} (h : rOk l = true) (hs : span low high = true) (hl : (rem low high l).length ≤ 16) : remOk l low high = true := by unfold remOk; rw [h, hs, decide_eq_true hl]; rfl

set_option maxHeartbeats 4000000 in
theorem rremove_impl (low high : Int) (a : Option Addr) (n cap : Nat) (l : RL) (w : World) (hl : l.length = n) (hlow : -1000 ≤ low ∧ low ≤ 2000) (hhigh : -1000 ≤ high ∧ high ≤ 2000) (S : Sl 2 w w.heap.size a n (tkG l)) :
    Calls Try.prog 6 #[.slice a n cap, .int .i64 low, .int .i64 high] w (RngB w (remS l low high) (remOk l low high)) := by
  have HV := Lib.hid (rvalid_impl a n cap l w hl S)
  cases hok : rOk l
  · rw [hok] at HV
    rw [remS_no (remOk_v hok), remOk_v hok]
    clear S hok
    go_enter Try.func6, Try.ntmps6
    go_wp2_with (go_at_call 11; refine HV.out.mono ?_; rintro e1 w1 ⟨rfl, hb1⟩)
    refine bodyPost_ret (v := .tuple #[.slice none 0 0, .bool false]) ?_ rfl ⟨none, 0, rfl, hb1, sl_none _ _⟩
    simp only [results, Try.results6]
    go_simp
  rw [hok] at HV
  have hn16 : n ≤ 16 := by have := (rok_t hok).1; omega
  cases hsp : span low high
  · rw [remS_no (remOk_s hsp), remOk_s hsp]
    have HI := Lib.hid (fun w => isR_c low high w)
    rw [hsp] at HI
    clear S hok hsp
    go_enter Try.func6, Try.ntmps6
    go_wp2_with (first | (go_at_call 11; refine HV.out.mono ?_; rintro e1 w1 ⟨rfl, hb1⟩) | (go_at_call 14; refine (HI.out _).mono ?_; rintro e1 w2 ⟨rfl, rfl⟩))
    refine bodyPost_ret (v := .tuple #[.slice none 0 0, .bool false]) ?_ rfl ⟨none, 0, rfl, hb1, sl_none _ _⟩
    simp only [results, Try.results6]
    go_simp
  have HI := Lib.hid (fun w => isR_c low high w)
  rw [hsp] at HI
  have HR := Lib.hid (fun w1 (hb : Below w.heap.size w w1) => removed_c low high a n cap l w1 hl hn16 hlow hhigh ((S.below hb).mono hb.size))
  have HQ := Lib.hid hok
  have HP := Lib.hid hsp
  clear S hok hsp
  by_cases h16 : (rem low high l).length ≤ 16
  · have hO := remOk_y HQ.out HP.out h16
    have hS : remS l low high = rem low high l := by unfold remS; rw [if_pos hO]
    rw [hO, hS]
    clear hO hS
    obtain ⟨R, hR⟩ : ∃ R, rem low high l = R := ⟨_, rfl⟩
    rw [hR] at h16 HR ⊢
    clear hR
    go_enter Try.func6, Try.ntmps6
    go_wp2_with (first | (go_at_call 11; refine HV.out.mono ?_; rintro e1 w1 ⟨rfl, hb1⟩) | (go_at_call 14; refine (HI.out _).mono ?_; rintro e1 w2 ⟨rfl, rfl⟩) | (go_at_call 16; refine (HR.out _ hb1).mono ?_; rintro e1 w2 ⟨a2, c2, rfl, hb2, S2⟩; have HS2 := Lib.hid S2; clear S2) | (go_at_call 15; refine (few_yes _ _ _ _ h16).mono ?_; rintro e1 w3 ⟨rfl, rfl⟩))
    refine bodyPost_ret (v := .tuple #[.slice a2 R.length c2, .bool true]) ?_ rfl ⟨a2, c2, rfl, bstep hb1 hb2, HS2.out⟩
    simp only [results, Try.results6]
    go_simp
  · have hO := remOk_l h16
    rw [remS_no hO, hO]
    clear hO
    obtain ⟨R, hR⟩ : ∃ R, rem low high l = R := ⟨_, rfl⟩
    rw [hR] at h16 HR
    clear hR
    go_enter Try.func6, Try.ntmps6
    go_wp2_with (first | (go_at_call 11; refine HV.out.mono ?_; rintro e1 w1 ⟨rfl, hb1⟩) | (go_at_call 14; refine (HI.out _).mono ?_; rintro e1 w2 ⟨rfl, rfl⟩) | (go_at_call 16; refine (HR.out _ hb1).mono ?_; rintro e1 w2 ⟨a2, c2, rfl, hb2, S2⟩; clear S2) | (go_at_call 15; refine (few_no _ _ _ _ h16).mono ?_; rintro e1 w3 ⟨rfl, rfl⟩))
    refine bodyPost_ret (v := .tuple #[.slice none 0 0, .bool false]) ?_ rfl ⟨none, 0, rfl, bstep hb1 hb2, sl_none _ _⟩
    simp only [results, Try.results6]
    go_simp

set_option maxHeartbeats 4000000 in
theorem rremove_spec (low high : Int) (a : Option Addr) (n cap : Nat) (l : RL) (w : World) (hl : l.length = n) (hlow : -1000 ≤ low ∧ low ≤ 2000) (hhigh : -1000 ≤ high ∧ high ≤ 2000) (S : Sl 2 w w.heap.size a n (tkG l)) :
    Calls Try.prog 7 #[.slice a n cap, .int .i64 low, .int .i64 high] w (RngB w (remS l low high) (remOk l low high)) := by
  have HV := Lib.hid (rvalid_spec a n cap l w hl S)
  cases hok : rOk l
  · rw [hok] at HV
    rw [remS_no (remOk_v hok), remOk_v hok]
    clear S hok
    go_enter Try.func7, Try.ntmps7
    go_wp2_with (go_at_call 17; refine HV.out.mono ?_; rintro e1 w1 ⟨rfl, hb1⟩)
    refine bodyPost_ret (v := .tuple #[.slice (some ⟨w1.heap.size, 0, none⟩) 0 0, .bool false]) ?_ rfl ⟨_, 0, rfl, bpush hb1 _, sl_none _ _⟩
    simp only [results, Try.results7]
    go_simp
  rw [hok] at HV
  have hn16 : n ≤ 16 := by have := (rok_t hok).1; omega
  cases hsp : span low high
  · rw [remS_no (remOk_s hsp), remOk_s hsp]
    have HI := Lib.hid (fun w => l2span_c low high w)
    rw [hsp] at HI
    clear S hok hsp
    go_enter Try.func7, Try.ntmps7
    go_wp2_with (first | (go_at_call 17; refine HV.out.mono ?_; rintro e1 w1 ⟨rfl, hb1⟩) | (go_at_call 18; refine (HI.out _).mono ?_; rintro e1 w2 ⟨rfl, rfl⟩))
    refine bodyPost_ret (v := .tuple #[.slice (some ⟨w1.heap.size, 0, none⟩) 0 0, .bool false]) ?_ rfl ⟨_, 0, rfl, bpush hb1 _, sl_none _ _⟩
    simp only [results, Try.results7]
    go_simp
  have HI := Lib.hid (fun w => l2span_c low high w)
  rw [hsp] at HI
  have HR := Lib.hid (fun w1 (hb : Below w.heap.size w w1) => l2remove_c low high a n cap l w1 hl hn16 hlow hhigh ((S.below hb).mono hb.size))
  have HQ := Lib.hid hok
  have HP := Lib.hid hsp
  clear S hok hsp
  by_cases h16 : (rem low high l).length ≤ 16
  · have hO := remOk_y HQ.out HP.out h16
    have hS : remS l low high = rem low high l := by unfold remS; rw [if_pos hO]
    rw [hO, hS]
    clear hO hS
    obtain ⟨R, hR⟩ : ∃ R, rem low high l = R := ⟨_, rfl⟩
    rw [hR] at h16 HR ⊢
    have hi : ¬ (16 : Int) < (R.length : Int) := by omega
    clear hR
    go_enter Try.func7, Try.ntmps7
    go_wp2_with (first | (go_at_call 17; refine HV.out.mono ?_; rintro e1 w1 ⟨rfl, hb1⟩) | (go_at_call 18; refine (HI.out _).mono ?_; rintro e1 w2 ⟨rfl, rfl⟩) | (go_at_call 19; refine (HR.out _ hb1).mono ?_; rintro e1 w2 ⟨a2, c2, rfl, hb2, S2⟩; have HS2 := Lib.hid S2; clear S2))
    refine bodyPost_ret (v := .tuple #[.slice a2 R.length c2, .bool true]) ?_ rfl ⟨a2, c2, rfl, bstep hb1 hb2, HS2.out⟩
    simp only [results, Try.results7]
    go_simp
  · have hO := remOk_l h16
    rw [remS_no hO, hO]
    clear hO
    obtain ⟨R, hR⟩ : ∃ R, rem low high l = R := ⟨_, rfl⟩
    rw [hR] at h16 HR
    have hi : (16 : Int) < (R.length : Int) := by omega
    clear hR
    go_enter Try.func7, Try.ntmps7
    go_wp2_with (first | (go_at_call 17; refine HV.out.mono ?_; rintro e1 w1 ⟨rfl, hb1⟩) | (go_at_call 18; refine (HI.out _).mono ?_; rintro e1 w2 ⟨rfl, rfl⟩) | (go_at_call 19; refine (HR.out _ hb1).mono ?_; rintro e1 w2 ⟨a2, c2, rfl, hb2, S2⟩; clear S2))
    refine bodyPost_ret (v := .tuple #[.slice (some ⟨w2.heap.size, 0, none⟩) 0 0, .bool false]) ?_ rfl ⟨_, 0, rfl, bpush (bstep hb1 hb2) _, sl_none _ _⟩
    simp only [results, Try.results7]
    go_simp

set_option maxHeartbeats 4000000 in
theorem sameRanges_c (a a' : Option Addr) (n cap cap' : Nat) (l : RL) (w : World) (S : Sl 2 w w.heap.size a n (tkG l)) (S' : Sl 2 w w.heap.size a' n (tkG l)) :
    Calls Try.prog 8 #[.slice a n cap, .slice a' n cap'] w fun e w' => e = .returned (.bool true) ∧ Below w.heap.size w w' := by
  have hn := S.len
  have HN := Lib.hid S
  have HN' := Lib.hid S'
  have hb0 := Below.refl w.heap.size w
  clear S S'
  go_enter Try.func8, Try.ntmps8
  go_wp2_with fail
  go_loopw [5] (fun i wr => ∃ k : Nat, k ≤ n ∧ i = .int .i64 k ∧ Below w.heap.size w wr) (fun i _ => n - (intOf i).toNat)
  case atStart => exact ⟨0, by omega, rfl, hb0⟩
  case round =>
    obtain ⟨k, hk, rfl, hbk⟩ := hrel
    clear hb0
    by_cases hlt : k < n
    · have hki : (k : Int) < (n : Int) := by omega
      obtain ⟨b, off, rfl, hB, hcl⟩ := (HN.out.below hbk).at hlt
      obtain ⟨b', off', rfl, hB', hcl'⟩ := (HN'.out.below hbk).at hlt
      have x0 := hcl k hlt 0 (by omega)
      have x1 := hcl k hlt 1 (by omega)
      have y0 := hcl' k hlt 0 (by omega)
      have y1 := hcl' k hlt 1 (by omega)
      obtain ⟨r, hr⟩ : ∃ p, l.getD k (0, 0) = p := ⟨_, rfl⟩
      simp only [tkG, Nat.add_zero, hr] at x0 x1 y0 y1
      clear hcl hcl' hr
      go_wp2_with fail
      go_quiet (fail)
      go_wp2_with fail
      go_roundw
      case rel => exact ⟨k + 1, by omega, by go_num, bdrewN hbk _⟩
      case measure => simp [intOf]; omega
    · obtain rfl : k = n := by omega
      go_wp2_with fail
      go_ret
      exact ⟨rfl, hbk⟩
end Go.Proofs.Ytghljfddgcclpaa
