/- Boxes compared, measured, marked. -/
import Derived.Test.YtdnkopnhpffcdaaVr
namespace Go.Proofs.Ytdnkopnhpffcdaa
open Go.RowKit
set_option linter.unusedVariables false

theorem only_chg {b B H : Nat} {w w' : World} (h : Only b w w') (h1 : B ≤ b) (h2 : b < H) : Chg B H w w' :=
  ⟨h.os, h.tape, h.output, by rw [h.size]; exact Nat.le_refl _, fun k _ hn => h.block k (by rintro rfl; exact hn ⟨h1, h2⟩)⟩
set_option maxHeartbeats 2000000 in
theorem markBS_c (k : Int) (hk0 : 0 ≤ k) (hk1 : k ≤ 100000000) (a : Option Addr) (n cap B H : Nat) (bl : BL) (w : World) (hl : bl.length = n) (ht : tot (boxesOf bl) ≤ 1048576) (HB : Bd w B H a bl) :
    Calls Try.prog 31 #[.slice a n cap, .int .i64 k] w fun e w' => e = .returned (.int .i64 (k + tot (boxesOf bl))) ∧ Chg B H w w' := by
  obtain ⟨⟨b, cs0, rfl, h1, h2, B0, hs0, hc0⟩, hi0⟩ := HB
  have hbl := bx_len bl
  have HT := Lib.hid (sumk_all (boxesOf bl))
  have hnt : n ≤ tot (boxesOf bl) := by unfold tot; omega
  have IN0 : ∀ t ∈ bl, ∃ (b' : Nat) (cs' : Array Value), t.2.2.1 = some ⟨b', 0, none⟩ ∧ B ≤ b' ∧ b' < H ∧ Blk w b' cs' 3 ∧ cs'.size = t.2.1.length := fun t m => by
    obtain ⟨b', cs', e, z1, z2, z3, z4, _⟩ := (hi0 t m).2
    exact ⟨b', cs', e, z1, z2, z3, z4⟩
  have HCAP := Lib.hid (fun t m => (hi0 t m).1)
  have SL0 : ∀ i, i < n → cs0[i * 2 + 1]? = some (inV (bl.getD i (0, [], none, 0))) := fun i hi => (hc0 i (by omega)).2
  clear hi0 hc0
  go_enter Try.func31, Try.ntmps31
  go_wp2_with fail
  go_loopw [1, 5] (fun q i wr => ∃ m : Nat, m ≤ n ∧ i = .int .i64 m ∧ q = .int .i64 (k + (m : Int) + (sumk (boxesOf bl) m : Int)) ∧ Chg B H w wr ∧ (∃ cs : Array Value, Blk wr b cs 33 ∧ cs.size = n * 2 ∧ ∀ i, i < n → cs[i * 2 + 1]? = some (inV (bl.getD i (0, [], none, 0)))) ∧ ∀ t ∈ bl, ∃ (b' : Nat) (cs' : Array Value), t.2.2.1 = some ⟨b', 0, none⟩ ∧ B ≤ b' ∧ b' < H ∧ Blk wr b' cs' 3 ∧ cs'.size = t.2.1.length) (fun _ i _ => n - (intOf i).toNat)
  case atStart => exact ⟨0, by omega, rfl, by simp [sumk], Chg.refl _ _ _, ⟨cs0, B0, by omega, SL0⟩, IN0⟩
  case round =>
    clear IN0 SL0 B0
    obtain ⟨m, hm, rfl, rfl, hC, ⟨cs, Bk, hcs, hsl⟩, hin⟩ := hrel
    by_cases hlt : m < n
    · have hki : (m : Int) < (n : Int) := by omega
      have hmem : bl.getD m (0, [], none, 0) ∈ bl := getD_mem (by omega)
      have hsm := sumk_succ (bs := boxesOf bl) (k := m) (by omega)
      have hsa := sumk_le (boxesOf bl) (m + 1) (by omega)
      have hta := HT.out
      rw [boxesOf_at] at hsm
      obtain ⟨b', cs', e', z1, z2, z3, z4⟩ := hin _ hmem
      have hcap := HCAP.out _ hmem
      have x1 := hsl m hlt
      obtain ⟨t, htt⟩ : ∃ t, bl.getD m (0, [], none, 0) = t := ⟨_, rfl⟩
      rw [htt] at hsm e' z4 hcap x1
      replace hsm : sumk (boxesOf bl) (m + 1) = sumk (boxesOf bl) m + t.2.1.length := hsm
      unfold inV at x1
      rw [e', hcap] at x1
      obtain ⟨v0, e0⟩ := arr_some (show m * 2 < cs.size by omega)
      have c0 := Bk.cell _ e0
      have c1 := Bk.cell _ x1
      have f0 := Bk.free (m * 2)
      have q := Bk.lt
      obtain ⟨s, hs⟩ : ∃ s, sumk (boxesOf bl) m = s := ⟨_, rfl⟩
      have HS := Lib.hid hs
      rw [hs] at hsm ⊢
      have hs1 : (s : Int) ≤ 1048576 := by omega
      have hs2 : (m : Int) + (s : Int) + (t.2.1.length : Int) ≤ 1048576 := by omega
      have hs3 : k + (m : Int) + (s : Int) + 1 ≤ 1000000000 := by omega
      have hw : wrap64 (k + (m : Int) + (s : Int) + 1) = k + (m : Int) + (s : Int) + 1 := IntWalk.wrap64_in _ (by omega)
      have hne : b' ≠ b := by
        rintro rfl
        have z3' := z3
        unfold Blk at z3' Bk
        rw [z3'] at Bk
        simp only [Option.some.injEq, Obj.cells.injEq] at Bk
        exact absurd Bk.2.1 (by decide)
      have B1 := Lib.hid (fun v => Bk.set (m * 2) v)
      have z3a := Lib.hid (fun v => z3.other hne (m * 2) v)
      have HIN := Lib.hid hin
      have HSL := Lib.hid hsl
      have HSM := Lib.hid hsm
      have HH1 := Lib.hid (And.intro h1 h2)
      clear htt e' hcap x1 e0 hs Bk hin hsl hsm z3
      go_wp2_with fail
      refine (markI_c (k + (m : Int) + (s : Int) + 1) (by omega) (by omega) b' t.2.1.length _ _ _ _ (by omega) (z3a.out _) (by omega)).mono ?_
      rintro e w3 ⟨rfl, hO3, cs3, z5, z6, -⟩
      go_wp2_with fail
      go_roundw
      case rel =>
        have hC2 : Chg B H w (wr.setCell ⟨b, m * 2, none⟩ (.int .i64 (k + (m : Int) + (s : Int)))) := Chg.set hC (.inl HH1.out) _ _
        have Bo := (B1.out (.int .i64 (k + (m : Int) + (s : Int))))
        refine ⟨m + 1, by omega, by go_num, by rw [HSM.out]; congr 1; push_cast; omega, hC2.trans (only_chg hO3 z1 z2), ⟨_, (hO3.block b (Ne.symm hne)).trans Bo, by simpa using hcs, fun i hi => ?_⟩, fun u m' => ?_⟩
        · rw [Array.getElem?_setIfInBounds_ne (by omega)]; exact HSL.out i hi
        · obtain ⟨b4, cs4, y0, y1, y2, y3, y4⟩ := HIN.out u m'
          by_cases hb4 : b4 = b'
          · subst hb4
            have y3' := y3.other hne (m * 2) (.int .i64 (k + (m : Int) + (s : Int)))
            have z3' := z3a.out (.int .i64 (k + (m : Int) + (s : Int)))
            unfold Blk at y3' z3'
            rw [y3'] at z3'
            simp only [Option.some.injEq, Obj.cells.injEq] at z3'
            exact ⟨b4, cs3, y0, y1, y2, z5, by rw [z6, ← z3'.1]; exact y4⟩
          · have hne4 : b4 ≠ b := by
              rintro rfl
              have y3' := y3.set (m * 2) (.int .i64 (k + (m : Int) + (s : Int)))
              unfold Blk at y3' Bo
              rw [y3'] at Bo
              simp only [Option.some.injEq, Obj.cells.injEq] at Bo
              exact absurd Bo.2.1 (by decide)
            exact ⟨b4, cs4, y0, y1, y2, (hO3.block b4 hb4).trans (y3.other hne4 _ _), y4⟩
      case measure => simp [intOf]; omega
    · obtain rfl : m = n := by omega
      go_wp2_with fail
      go_ret
      refine ⟨?_, hC⟩
      have := HT.out
      rw [hbl, hl] at this
      rw [this]
      show Ending.returned (Value.int .i64 (k + (m : Int) + (sumk (boxesOf bl) m : Int))) = _
      congr 2; push_cast; omega
end Go.Proofs.Ytdnkopnhpffcdaa
