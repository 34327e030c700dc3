/- The draw of ranges and bounds. -/
import Derived.Test.YtghljfddgcclpaaYg
namespace Go.Proofs.Ytghljfddgcclpaa
open Go.RowKit
set_option linter.unusedVariables false

set_option maxHeartbeats 4000000 in
theorem ranges_c {bk p : Nat} (w : World) (h : Rdr w bk p) (hp : p ≤ 1000) :
    Calls Try.prog 22 #[.pointer (some ⟨bk, 0, none⟩)] w fun e w' => ∃ (q : Nat) (a : Option Addr) (c : Nat) (l : RL), e = .returned (.slice a l.length c) ∧ l.length ≤ 20 ∧ q ≤ p + 300 ∧ RS w bk q w' ∧ w'.ownsRow w.heap.size 39 2 (.slice a l.length c) l.length (flat l) := by
  have hbB := h.lt
  have HS := Lib.hid (set_c w h hp)
  clear h
  obtain ⟨i0, hi0, hz0, hs0, hy0⟩ := info_parts infoRn
  have HI := Lib.hid hi0; have HZ := Lib.hid hz0; have HZ1 := Lib.hid hs0; have HY := Lib.hid hy0
  clear hi0 hz0 hs0 hy0
  go_enter Try.func22, Try.ntmps22
  go_wp2_with fail
  refine HS.out.mono ?_
  rintro e1 w1 ⟨q, av, cp, P, rfl, hP, hq, hS1, own1⟩
  go_wp2_with fail
  refine (pick_s hS1 (by omega) (by omega)).mono ?_
  rintro e w2 ⟨r, rfl, hr, hS2, hl2⟩
  have own2 := row_lo own1 hl2 hbB
  clear hS1 own1 hl2
  by_cases h0 : r = 0
  · subst h0
    go_wp2_with fail
    refine (pick_s hS2 (by omega) (by omega)).mono ?_
    rintro e w3 ⟨r3, rfl, hr3, hS3, hl3⟩
    have own3 := row_lo own2 hl3 hbB
    clear hS2 own2 hl3
    go_wp2_with fail
    refine (pick_s hS3 (by omega) (by omega)).mono ?_
    rintro e w4 ⟨r4, rfl, hr4, hS4, hl4⟩
    have own4 := row_lo own3 hl4 hbB
    clear hS3 own3 hl4
    have z_ := hS4.2.size
    have N_ := Blk.new w4 #[.int .i64 ((r3 : Int) - 2), .int .i64 (r4 : Int)] 39
    have own_ := own4.alloc (Obj.cells #[.int .i64 ((r3 : Int) - 2), .int .i64 (r4 : Int)] 39)
    have hS_ := hS4.alloc (Obj.cells #[.int .i64 ((r3 : Int) - 2), .int .i64 (r4 : Int)] 39)
    clear own4 hS4
    go_wp2_with (at_builtin; refine wpList_append_lies _ rfl _ _ _ rfl w.heap.size _ i0 _ 2 16 Try.underlying23 HI.out HZ.out HZ1.out HY.out rfl (by omega) _ _ _ rfl own_ ⟨w4.heap.size, 0, none⟩ 1 1 [.int .i64 ((r3 : Int) - 2), .int .i64 (r4 : Int)] rfl rfl (World.news_of_block N_) (by simp [Value.oneCell']) (by omega) (by unfold maxLen; omega) (by omega) (by simp; omega) (w4.heap.size + 1) (by simp) ?_; intro g9 cap9 w9 own9 hg_ hat_ hl_; have hS9 := hS_.grown own_ hg_ hbB (Nat.le_refl _) (by simp; omega))
    go_ret
    exact ⟨q + 1 + 1 + 1, _, cap9, P ++ [((r3 : Int) - 2, (r4 : Int))], by rw [len_snoc]; rfl, by rw [len_snoc]; omega, by omega, hS9, by have := own_snoc (r := ((r3 : Int) - 2, (r4 : Int))) own9; rw [len_snoc] at this ⊢; exact this⟩
  have g0 : ¬ (r : Int) = 0 := by omega
  have g0' : ((r : Int) == 0) = false := by simp; omega
  by_cases h1 : r = 1
  · subst h1
    go_wp2_with fail
    refine (pick_s hS2 (by omega) (by omega)).mono ?_
    rintro e w3 ⟨r3, rfl, hr3, hS3, hl3⟩
    have own3 := row_lo own2 hl3 hbB
    clear hS2 own2 hl3
    have z_ := hS3.2.size
    have N_ := Blk.new w3 #[.int .i64 998, .int .i64 (998 + (r3 : Int))] 39
    have own_ := own3.alloc (Obj.cells #[.int .i64 998, .int .i64 (998 + (r3 : Int))] 39)
    have hS_ := hS3.alloc (Obj.cells #[.int .i64 998, .int .i64 (998 + (r3 : Int))] 39)
    clear own3 hS3
    go_wp2_with (at_builtin; refine wpList_append_lies _ rfl _ _ _ rfl w.heap.size _ i0 _ 2 16 Try.underlying23 HI.out HZ.out HZ1.out HY.out rfl (by omega) _ _ _ rfl own_ ⟨w3.heap.size, 0, none⟩ 1 1 [.int .i64 998, .int .i64 (998 + (r3 : Int))] rfl rfl (World.news_of_block N_) (by simp [Value.oneCell']) (by omega) (by unfold maxLen; omega) (by omega) (by simp; omega) (w3.heap.size + 1) (by simp) ?_; intro g9 cap9 w9 own9 hg_ hat_ hl_; have hS9 := hS_.grown own_ hg_ hbB (Nat.le_refl _) (by simp; omega))
    go_ret
    exact ⟨q + 1 + 1, _, cap9, P ++ [(998, 998 + (r3 : Int))], by rw [len_snoc]; rfl, by rw [len_snoc]; omega, by omega, hS9, by have := own_snoc (r := (998, 998 + (r3 : Int))) own9; rw [len_snoc] at this ⊢; exact this⟩
  have g1 : ¬ (r : Int) = 1 := by omega
  have g1' : ((r : Int) == 1) = false := by simp; omega
  by_cases h2 : r = 2
  · subst h2
    have z2 := hS2.2.size
    have hS3 := hS2.alloc (Obj.cells #[] 39)
    have own0 : (w2.alloc (Obj.cells #[] 39)).ownsRow w.heap.size 39 2 (.slice (some ⟨w2.heap.size, 0, none⟩) (0 : Nat) 0) ([] : RL).length (flat []) := own_rng (Blk.new w2 #[] 39) z2
    clear own2 hS2 hP
    go_wp2_with fail
    go_loopw [3, 4] (fun v i wr => ∃ (k q1 : Nat) (P : RL), k ≤ 17 ∧ i = .int .i64 k ∧ q1 ≤ q + 1 + 5 * k ∧ P.length = k ∧ RS w bk q1 wr ∧ wr.ownsRow w.heap.size 39 2 v P.length (flat P)) (fun _ i _ => 18 - (intOf i).toNat)
    case atStart => exact ⟨0, q + 1, [], by omega, rfl, by omega, by simp, hS3, own0⟩
    case round =>
      clear hS3 own0
      obtain ⟨k, q1, P, hk, rfl, hq1, hP, hSr, ownr⟩ := hrel
      have HP := Lib.hid hP
      have hP2 : P.length ≤ 17 := by omega
      clear hP
      obtain ⟨av, cp, rfl⟩ := row_form ownr
      go_wp2_with fail
      refine (pick_s hSr (by omega) (by omega)).mono ?_
      rintro e w2 ⟨r, rfl, hr, hS2, hl2⟩
      have own2 := row_lo ownr hl2 hbB
      clear hSr ownr hl2
      by_cases hlt : k < 14 + r
      · have hki : (k : Int) < 14 + (r : Int) := by omega
        go_wp2_with fail
        refine (pick_s hS2 (by omega) (by omega)).mono ?_
        rintro e w3 ⟨r3, rfl, hr3, hS3, hl3⟩
        have own3 := row_lo own2 hl3 hbB
        clear hS2 own2 hl3
        have z_ := hS3.2.size
        have N_ := Blk.new w3 #[.int .i64 (3 * (k : Int)), .int .i64 (3 * (k : Int) + (r3 : Int))] 39
        have own_ := own3.alloc (Obj.cells #[.int .i64 (3 * (k : Int)), .int .i64 (3 * (k : Int) + (r3 : Int))] 39)
        have hS_ := hS3.alloc (Obj.cells #[.int .i64 (3 * (k : Int)), .int .i64 (3 * (k : Int) + (r3 : Int))] 39)
        clear own3 hS3
        go_wp2_with (at_builtin; refine wpList_append_lies _ rfl _ _ _ rfl w.heap.size _ i0 _ 2 16 Try.underlying23 HI.out HZ.out HZ1.out HY.out rfl (by omega) _ _ _ rfl own_ ⟨w3.heap.size, 0, none⟩ 1 1 [.int .i64 (3 * (k : Int)), .int .i64 (3 * (k : Int) + (r3 : Int))] rfl rfl (World.news_of_block N_) (by simp [Value.oneCell']) (by omega) (by unfold maxLen; omega) (by omega) (by simp; omega) (w3.heap.size + 1) (by simp) ?_; intro g9 cap9 w9 own9 hg_ hat_ hl_; have hS9 := hS_.grown own_ hg_ hbB (Nat.le_refl _) (by simp; omega))
        go_roundw
        case rel => exact ⟨k + 1, q1 + 1 + 1, P ++ [(3 * (k : Int), 3 * (k : Int) + (r3 : Int))], by omega, by go_num, by omega, by rw [len_snoc, HP.out], hS9, own_snoc (r := (3 * (k : Int), 3 * (k : Int) + (r3 : Int))) own9⟩
        case measure => simp [intOf]; omega
      · have hki : ¬ ((k : Int) < 14 + (r : Int)) := by omega
        go_wp2_with fail
        go_ret
        exact ⟨q1 + 1, av, cp, P, rfl, by omega, by omega, hS2, own2⟩
  have g2 : ¬ (r : Int) = 2 := by omega
  have g2' : ((r : Int) == 2) = false := by simp; omega
  go_wp2_with fail
  go_ret
  exact ⟨q + 1, av, cp, P, rfl, by omega, by omega, hS2, own2⟩

theorem draw_add (w : World) (a : Option Addr) (len cap : Nat) (zs : List Int) (h : IsRow .u8 w a len cap zs) :
    Calls Try.prog 13 #[.slice a len cap] w fun e w' => ∃ (l : RL) (sa : Option Addr) (c : Nat) (x y : Int), e = .returned (.tuple #[.slice sa l.length c, .int .i64 x, .int .i64 y]) ∧ l.length ≤ 20 ∧ (-1000 ≤ x ∧ x ≤ 2000) ∧ (-1000 ≤ y ∧ y ≤ 2000) ∧ Below w.heap.size w w' ∧ Sl 2 w' w'.heap.size sa l.length (tkG l) := by
  have HO := Lib.hid (open_s _ a len cap zs h)
  clear h
  go_enter Try.func13, Try.ntmps13
  go_wp2_with fail
  refine HO.out.mono ?_
  rintro e1 w1 ⟨bk, rfl, hbk, hS1⟩
  clear HO
  go_wp2_with fail
  refine (ranges_c w1 hS1.1 (by omega)).mono ?_
  rintro e2 w2 ⟨q, av, cp, P, rfl, hP, hq, hS2, own2⟩
  have hbB := hS1.lt
  have hS3 := hS1.trans hS2
  clear hS1 hS2
  go_wp2_with fail
  refine (span_c w2 hS3.1 (by omega)).mono ?_
  rintro e3 w3 ⟨q3, x, y, rfl, hx, hy, hS4⟩
  have hS5 := hS3.trans hS4
  have SL3 : Sl 2 w3 w3.heap.size av P.length (tkG P) := row_sl (row_lo own2 hS4.2 hbB) rfl (by omega)
  clear hS3 hS4 own2
  go_wp2_with fail
  refine bodyPost_ret (v := .tuple #[.slice av P.length cp, .int .i64 x, .int .i64 y]) ?_ rfl ⟨P, av, cp, x, y, rfl, hP, hx, hy, hS5.2.below hbk, SL3⟩
  simp only [results, Try.results13]
  go_simp
theorem draw_rem (w : World) (a : Option Addr) (len cap : Nat) (zs : List Int) (h : IsRow .u8 w a len cap zs) :
    Calls Try.prog 5 #[.slice a len cap] w fun e w' => ∃ (l : RL) (sa : Option Addr) (c : Nat) (x y : Int), e = .returned (.tuple #[.slice sa l.length c, .int .i64 x, .int .i64 y]) ∧ l.length ≤ 20 ∧ (-1000 ≤ x ∧ x ≤ 2000) ∧ (-1000 ≤ y ∧ y ≤ 2000) ∧ Below w.heap.size w w' ∧ Sl 2 w' w'.heap.size sa l.length (tkG l) := by
  have HO := Lib.hid (draw_add w a len cap zs h)
  clear h
  go_enter Try.func5, Try.ntmps5
  go_wp2_with fail
  refine HO.out.mono ?_
  rintro e1 w1 ⟨P, av, cp, x, y, rfl, hP, hx, hy, hb, SL⟩
  go_wp2_with fail
  refine bodyPost_ret (v := .tuple #[.slice av P.length cp, .int .i64 x, .int .i64 y]) ?_ rfl ⟨P, av, cp, x, y, rfl, hP, hx, hy, hb, SL⟩
  simp only [results, Try.results5]
  go_simp
end Go.Proofs.Ytghljfddgcclpaa
