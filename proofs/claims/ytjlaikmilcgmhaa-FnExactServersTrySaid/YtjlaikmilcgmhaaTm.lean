/- The draw of a time. -/
import Derived.Test.YtjlaikmilcgmhaaRd
namespace Go.Proofs.Ytjlaikmilcgmhaa
open Go.RowKit
set_option linter.unusedVariables false

theorem time_r {w : World} {bk p : Nat} (h : Rdr w bk p) (hp : p ≤ 900000) :
    Calls Try.prog 55 #[.pointer (some ⟨bk, 0, none⟩)] w fun e w' =>
      ∃ (t : Int) (q : Nat), e = .returned (.int .i64 t) ∧ (-1 ≤ t ∧ t ≤ 1000) ∧ q ≤ p + 3 ∧ RS w bk q w' := by
  have hS0 : RS w bk p w := ⟨h, Lo.refl _ _⟩
  clear h
  go_enter Try.func55, Try.ntmps55
  go_wp2_with fail
  refine (pick_s hS0 (by omega) (by omega)).mono ?_
  rintro e w1 ⟨r1, rfl, hr1, hS1, -⟩
  clear hS0
  by_cases h1 : r1 = 0
  · have h1' : ((r1 : Int) == 0) = true := by simp [h1]
    clear h1
    go_wp2_with fail
    refine (pick_s (hS1.alloc _) (by omega) (by omega)).mono ?_
    rintro e w2 ⟨r2, rfl, hr2, hS2, hl2⟩
    obtain ⟨v1, ⟨hv1, hv1'⟩, hc1⟩ := cell_pick [-1, 0, 998, 999, 1000] (-1) 1000 _ _ _ _ r2 (by simp; omega) (by simp) hS1.lt hl2
    clear hS1 hl2
    go_wp2_with fail
    go_ret
    exact ⟨v1, _, rfl, ⟨hv1, hv1'⟩, by omega, hS2⟩
  · have h1' : ((r1 : Int) == 0) = false := by simp [h1]
    clear h1
    go_wp2_with fail
    refine (pick_s hS1 (by omega) (by omega)).mono ?_
    rintro e w2 ⟨r2, rfl, hr2, hS2, -⟩
    clear hS1
    go_wp2_with fail
    refine (pick_s hS2 (by omega) (by omega)).mono ?_
    rintro e w3 ⟨r3, rfl, hr3, hS3, -⟩
    clear hS2
    go_wp2_with fail
    go_ret
    exact ⟨10 * (r2 : Int) + r3, _, rfl, ⟨by omega, by omega⟩, by omega, hS3⟩

theorem time_s {a w : World} {bk p : Nat} (h : RS a bk p w) (hp : p ≤ 900000) :
    Calls Try.prog 55 #[.pointer (some ⟨bk, 0, none⟩)] w fun e w' =>
      ∃ (t : Int) (q : Nat), e = .returned (.int .i64 t) ∧ (-1 ≤ t ∧ t ≤ 1000) ∧ q ≤ p + 3 ∧ RS a bk q w' ∧ Lo bk w w' :=
  (time_r h.1 hp).mono fun e w' ⟨t, q, he, ht, hq, hS⟩ => ⟨t, q, he, ht, hq, h.trans hS, hS.2⟩

end Go.Proofs.Ytjlaikmilcgmhaa
