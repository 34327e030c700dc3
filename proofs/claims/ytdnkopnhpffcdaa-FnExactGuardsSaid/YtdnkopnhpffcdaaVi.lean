/- Draws of atoms. -/
import Derived.Test.YtdnkopnhpffcdaaVh
import Derived.Deep.DrawnRows
namespace Go.Proofs.Ytdnkopnhpffcdaa
open Go.RowKit
set_option linter.unusedVariables false
attribute [local go_sem ↓] Go.wp_at_zero Go.wp_at_succ

theorem atom_r {w : World} {bk p : Nat} (h : Rdr w bk p) (hp : p ≤ 900000) :
    Calls Try.prog 52 #[.pointer (some ⟨bk, 0, none⟩)] w fun e w' => ∃ (x : Int) (q : Nat), e = .returned (.int .i64 x) ∧ (-1 ≤ x ∧ x ≤ 21) ∧ q ≤ p + 2 ∧ RS w bk q w' := by
  have hS0 : RS w bk p w := ⟨h, Lo.refl _ _⟩
  clear h
  go_enter Try.func52, Try.ntmps52
  go_wp2_with fail
  refine (pick_s hS0 (by omega) (by omega)).mono ?_
  rintro e w1 ⟨r1, rfl, hr1, hS1, -⟩
  clear hS0
  by_cases h1 : r1 = 0
  · have h1' : ((r1 : Int) == 0) = true := by simp [h1]
    clear h1
    go_wp2_with fail
    refine (pick_s (hS1.alloc _) (by omega) (by omega)).mono ?_
    rintro e w2 ⟨r2, rfl, hr2, hS2, hl2⟩
    obtain ⟨v1, ⟨hv1, hv1'⟩, hc1⟩ := cell_pick [0, 20, 21, -1] (-1) 21 _ _ _ _ r2 (by simp; omega) (by simp) hS1.lt hl2
    clear hS1 hl2
    go_wp2_with fail
    go_ret
    exact ⟨v1, _, rfl, ⟨hv1, hv1'⟩, by omega, hS2⟩
  · have h1' : ((r1 : Int) == 0) = false := by simp [h1]
    clear h1
    go_wp2_with fail
    refine (pick_s hS1 (by omega) (by omega)).mono ?_
    rintro e w2 ⟨r2, rfl, hr2, hS2, -⟩
    clear hS1
    go_wp2_with fail
    go_ret
    exact ⟨_, _, rfl, by omega, by omega, hS2⟩
theorem atom_s {a w : World} {bk p : Nat} (h : RS a bk p w) (hp : p ≤ 900000) :
    Calls Try.prog 52 #[.pointer (some ⟨bk, 0, none⟩)] w fun e w' => ∃ (x : Int) (q : Nat), e = .returned (.int .i64 x) ∧ (-1 ≤ x ∧ x ≤ 21) ∧ q ≤ p + 2 ∧ RS a bk q w' ∧ Lo bk w w' :=
  (atom_r h.1 hp).mono fun e w' ⟨x, q, he, hx, hq, hS⟩ => ⟨x, q, he, hx, hq, h.trans hS, hS.2⟩

set_option maxHeartbeats 2000000 in
theorem kn_r {w : World} {bk p : Nat} (h : Rdr w bk p) (hp : p ≤ 800000) :
    Calls Try.prog 39 #[.pointer (some ⟨bk, 0, none⟩)] w fun e w' => ∃ (q : Nat) (L : List Int) (a : Option Addr) (c : Nat), e = .returned (.slice a L.length c) ∧ q ≤ p + 30 ∧ L.length ≤ 4 ∧ RS w bk q w' ∧ w'.ownsRow w.heap.size 3 1 (.slice a L.length c) L.length (ints L) := by
  have hS0 : RS w bk p w := ⟨h, Lo.refl _ _⟩
  have q0 := h.lt
  clear h
  obtain ⟨i0, hi0, hz0, hs0, hy0⟩ := info_parts infoIn
  have HI := Lib.hid hi0
  have HZ := Lib.hid hz0
  have HZ1 := Lib.hid hs0
  have HY := Lib.hid hy0
  clear hi0 hz0 hs0 hy0
  have hS1 := hS0.alloc (Obj.cells #[] 3)
  have own1 := own_emp (Blk.new w #[] 3) (Nat.le_refl _)
  clear hS0
  go_enter Try.func39, Try.ntmps39
  go_wp2_with fail
  go_loopw [3, 4] (fun v i wr => ∃ (k q : Nat) (L : List Int), k ≤ 4 ∧ i = .int .i64 k ∧ q ≤ p + 3 * k ∧ RS w bk q wr ∧ wr.ownsRow w.heap.size 3 1 v L.length (ints L) ∧ L.length ≤ k) (fun _ i _ => 4 - (intOf i).toNat)
  case atStart => exact ⟨0, p, [], by omega, rfl, by omega, hS1, own1, by simp⟩
  case round =>
    obtain ⟨k, q, L, hk, rfl, hq, hSr, ownr, hLk⟩ := hrel
    clear hS1 own1
    go_wp2_with fail
    refine (pick_s hSr (by omega) (by omega)).mono ?_
    rintro e w2 ⟨r, rfl, hr, hS2, hl2⟩
    have own2 := row_lo ownr hl2 q0
    clear hSr ownr hl2
    by_cases hlt : k < r
    · have hki : (k : Int) < (r : Int) := by omega
      go_wp2_with fail
      refine (atom_s hS2 (by omega)).mono ?_
      rintro e wr ⟨x, q3, rfl, hx, hq3, hS3, hl3⟩
      have own1 := (row_lo own2 hl3 q0).alloc (Obj.cells #[.int .i64 x] 3)
      have N1 := Blk.new wr #[.int .i64 x] 3
      have hS4 := hS3.alloc (Obj.cells #[.int .i64 x] 3)
      have hsz := hS3.2.size
      clear hS2 own2 hl3 hS3
      go_wp2_with (at_builtin; refine wpList_append_lies _ rfl _ _ _ rfl w.heap.size _ i0 _ 1 8 Try.underlying24 HI.out HZ.out HZ1.out HY.out rfl (by omega) _ _ _ rfl own1 ⟨wr.heap.size, 0, none⟩ 1 1 [.int .i64 x] rfl rfl (World.news_of_block N1) (by simp [Value.oneCell']) (by omega) (by unfold maxLen; omega) (by omega) (by simp; omega) (wr.heap.size + 1) (by simp) ?_; intro g2 cap2 w5 own3 hgrow hat hg2)
      have hS5 := hS4.old ((chg_grown own1 hgrow).below (Nat.le_refl _) (by simp; omega)) q0
      rw [← ints_snoc] at own3
      have own4 : w5.ownsRow w.heap.size 3 1 (.slice (some ⟨g2, 0, none⟩) (L.length + 1) cap2) (L ++ [x]).length (ints (L ++ [x])) := by rw [List.length_append]; exact own3
      go_roundw
      case rel => exact ⟨k + 1, q3, L ++ [x], by omega, by go_num, by omega, hS5, own4, by simp; omega⟩
      case measure => simp [intOf]; omega
    · have hki : ¬ (k : Int) < (r : Int) := by omega
      obtain ⟨av, cv, rfl⟩ := row_form own2
      go_wp2_with fail
      go_ret
      exact ⟨_, L, av, cv, rfl, by omega, by omega, hS2, own2⟩
theorem kn_s {a w : World} {bk p : Nat} (h : RS a bk p w) (hp : p ≤ 800000) :
    Calls Try.prog 39 #[.pointer (some ⟨bk, 0, none⟩)] w fun e w' => ∃ (q : Nat) (L : List Int) (ak : Option Addr) (c : Nat), e = .returned (.slice ak L.length c) ∧ q ≤ p + 30 ∧ L.length ≤ 4 ∧ RS a bk q w' ∧ Lo bk w w' ∧ w'.ownsRow w.heap.size 3 1 (.slice ak L.length c) L.length (ints L) :=
  (kn_r h.1 hp).mono fun e w' ⟨q, L, ak, c, he, hq, hL, hS, hrow⟩ => ⟨q, L, ak, c, he, hq, hL, h.trans hS, hS.2, hrow⟩
end Go.Proofs.Ytdnkopnhpffcdaa
