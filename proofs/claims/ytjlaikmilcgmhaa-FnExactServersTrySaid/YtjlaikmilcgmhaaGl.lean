/- Clone and binary search of tickets. -/
import Derived.Test.YtjlaikmilcgmhaaGh
import Derived.WalkSpells
import Derived.Outline
import Derived.Deep.DrawnRows
namespace Go.Proofs.Ytjlaikmilcgmhaa
open Go.RowKit
set_option linter.unusedVariables false

set_option maxHeartbeats 2000000 in
theorem clone_c (a : Option Addr) (n cap : Nat) (l : List (Int × Int)) (w : World) (hl : l.length = n) (hn : n ≤ 1048576) (S : Sl 2 w w.heap.size a n (tkG l)) (h0 : a = none → n = 0) :
    Calls Try.prog 36 #[.slice a n cap] w fun e w' => ∃ (a' : Option Addr) (cap' : Nat), e = .returned (.slice a' n cap') ∧ Below w.heap.size w w' ∧ w'.ownsRow w.heap.size 30 2 (.slice a' n cap') n (flat l) := by
  have q22 : ∀ (w : World) (a : Option Addr) (n c n' c' : Nat), (binOp .eql 40 (.slice a n c) (.slice none n' c')).run Try.prog w = .ok (.bool a.isNone) w := fun w a n c n' c' => Lib.run_eql_slice_nil w _ _ a n c n' c' Try.underlying40
  cases a with
  | none =>
    obtain rfl : n = 0 := h0 rfl
    obtain rfl : l = [] := List.length_eq_zero_iff.1 hl
    clear S h0 hn hl
    go_enter Try.func36, Try.ntmps36
    go_wp2
    go_ret
    exact ⟨none, 0, rfl, Below.refl _ _, World.ownsRow_nil _ _ _ _⟩
  | some x =>
    obtain ⟨i0, hi0, hz0, hs0, hy0⟩ := info_parts infoTk
    have HI := Lib.hid hi0; have HZ := Lib.hid hz0; have HZ1 := Lib.hid hs0; have HY := Lib.hid hy0
    have own0 := World.ownsRow_made (base := w.heap.size) (e := 30) (size := 2) w #[] 0 (Nat.le_refl _) (Nat.zero_le _) rfl
    have news : ∀ j u, (flat l)[j]? = some u → (w.alloc (Obj.cells #[] 30)).cell? (x.add j) = some u := by
      intro j u hu
      have hj := (List.getElem?_eq_some_iff.1 hu).1
      rw [flat_length, hl] at hj
      have hn0 : ¬ n = 0 := by omega
      rcases S.2 with h | ⟨b, off, e, hb, hc⟩
      · exact absurd h hn0
      · simp only [Option.some.injEq] at e
        subst e
        have hadd : (⟨b, off, none⟩ : Addr).add j = ⟨b, off + j, none⟩ := by unfold Addr.add; split <;> simp_all
        rw [hadd]
        have h2 := hc (j / 2) (by omega) (j % 2) (by omega)
        have h3 := flat_at l (j / 2) (by omega) (j % 2) (by omega)
        rw [show j / 2 * 2 + j % 2 = j by omega] at h3
        rw [show off + j / 2 * 2 + j % 2 = off + j by omega] at h2
        rw [h3] at hu
        exact (World.cell?_alloc_lt _ _ _ hb).trans (h2.trans hu)
    have NE := Lib.hid news
    clear news S h0 hi0 hz0 hs0 hy0
    go_enter Try.func36, Try.ntmps36
    go_wp2_with (at_builtin; refine wpList_append_own _ rfl _ _ _ rfl w.heap.size _ i0 _ 2 16 Try.underlying40 HI.out HZ.out HZ1.out HY.out rfl (by omega) _ _ _ rfl own0 x n cap (flat l) rfl (by rw [flat_length, hl]) NE.out (flat_one l) (by unfold maxLen; omega) (by omega) (by simp) ?_; intro v1 w1 own1 hgrow hnil)
    obtain ⟨a1, cap1, hv⟩ := row_form own1
    have hb := bchg (bpush (Below.refl w.heap.size w) (Obj.cells #[] 30)) (chg_grown own0 hgrow) (Nat.le_refl _)
    simp only [Nat.zero_add, List.nil_append] at own1 hv
    subst hv
    clear own0 hgrow hnil
    go_wp2
    go_ret
    exact ⟨a1, cap1, rfl, hb, own1⟩

theorem mem_dec {t : Int × Int} {l : TL} (h : Srt l) {P : Nat} (hP : posT t l = P) : decide (t ∈ l) = decide (P < l.length ∧ l.getD P (0, 0) = t) := by
  rw [decide_eq_decide, ← hP]; exact mem_pos h
set_option maxHeartbeats 4000000 in
theorem search_c (a : Option Addr) (n cap : Nat) (l : List (Int × Int)) (t : Int × Int) (w : World) (hl : l.length = n) (hn : n ≤ 8) (hs : Srt l) (S : Sl 2 w w.heap.size a n (tkG l)) :
    Calls Try.prog 49 #[.slice a n cap, .agg #[.int .i64 t.1, .int .i64 t.2], .func (.func 43) #[] #[]] w fun e w' =>
      e = .returned (.tuple #[.int .i64 (posT t l : Nat), .bool (decide (t ∈ l))]) ∧ Below w.heap.size w w' := by
  obtain ⟨P, hP⟩ : ∃ P, posT t l = P := ⟨_, rfl⟩
  have HP := Lib.hid hP
  have hPn : P ≤ n := by rw [← hP, ← hl]; exact posT_le _ _
  have HS := Lib.hid S
  have HR := Lib.hid hs
  have hb0 := bpush (Below.refl w.heap.size w) (Obj.cells #[.int .i64 t.1, .int .i64 t.2] 30)
  have B0 := Blk.new w #[.int .i64 t.1, .int .i64 t.2] 30
  have HD := Lib.hid (mem_dec hs hP)
  rw [hP]
  clear hP S hs
  go_enter Try.func49, Try.ntmps49
  go_wp2_with fail
  go_loopw [9, 10] (fun i j wr => ∃ p q : Nat, p ≤ q ∧ q ≤ n ∧ i = .int .i64 p ∧ j = .int .i64 q ∧ p ≤ P ∧ P ≤ q ∧ Below w.heap.size w wr ∧ Blk wr w.heap.size #[.int .i64 t.1, .int .i64 t.2] 30) (fun i j _ => (intOf j).toNat - (intOf i).toNat)
  case atStart => exact ⟨0, n, by omega, by omega, rfl, rfl, by omega, by omega, hb0, B0⟩
  case round =>
    obtain ⟨p, q, hpq, hqn, rfl, rfl, hpP, hPq, hbk, Bk⟩ := hrel
    clear hb0 B0
    by_cases hlt : p < q
    · have hlt' : (p : Int) < (q : Int) := by omega
      obtain ⟨h, hh⟩ : ∃ h : Nat, (p + q) / 2 = h := ⟨_, rfl⟩
      have h1 : p ≤ h := by omega
      have h2 : h < q := by omega
      have h3 : (h : Int) < (n : Int) := by omega
      have h4 : (0 : Int) ≤ (h : Int) := by omega
      have HH := Lib.hid (show ((p : Int) + (q : Int)) / 2 = (h : Int) by omega)
      obtain ⟨b, off, rfl, hB, hc⟩ := (HS.out.below hbk).at (show h < n by omega)
      have y0 := hc h (by omega) 0 (by omega)
      have y1 := hc h (by omega) 1 (by omega)
      obtain ⟨e, he⟩ : ∃ e, l.getD h (0, 0) = e := ⟨_, rfl⟩
      have HE := Lib.hid he
      simp only [tkG, Nat.add_zero, he] at y0 y1
      have q0 := Bk.lt
      have y0' := ext_cell y0 (by omega)
      have y1' := ext_cell y1 (by omega)
      have e0 := Bk.ext 0 rfl
      have e1 := Bk.ext 1 rfl
      clear hc he hh y0 y1
      cases hle : tkLt e t
      · have hcmp : decide (cmpT e t < 0) = false := decide_eq_false (fun h => by rw [cmpT_neg, hle] at h; cases h)
        have hPh : P ≤ h := by
          rw [← HP.out]
          apply Nat.le_of_not_lt
          intro hg
          have := posT_lt hg
          rw [HE.out, hle] at this; cases this
        clear hle
        go_wp2_with fail
        rw [HH.out]
        refine wp_region_ext (by kernel_rfl) (by kernel_rfl) ?_
        repeat (go_big_quiet_step ((first | (go_at_call 43; exact ext_of (cmpT_c e t _)))))
        refine wpQuiet_nil ?_
        rintro _ ⟨⟨w1, hw1⟩, rfl⟩
        clear e0 e1 y0' y1'
        go_wp2_with fail
        go_roundw
        case rel => exact ⟨p, h, by omega, by omega, rfl, rfl, by omega, by omega, bstep hbk hw1, Bk.below hw1⟩
        case measure => simp [intOf]; omega
      · have hcmp : decide (cmpT e t < 0) = true := decide_eq_true (cmpT_neg.2 hle)
        have hPh : h < P := by
          rw [← HP.out]
          exact posT_mono HR.out (by omega) (by rw [HE.out]; exact hle)
        clear hle
        go_wp2_with fail
        rw [HH.out]
        refine wp_region_ext (by kernel_rfl) (by kernel_rfl) ?_
        repeat (go_big_quiet_step ((first | (go_at_call 43; exact ext_of (cmpT_c e t _)))))
        refine wpQuiet_nil ?_
        rintro _ ⟨⟨w1, hw1⟩, rfl⟩
        clear e0 e1 y0' y1'
        go_wp2_with fail
        go_roundw
        case rel => exact ⟨h + 1, q, by omega, by omega, by go_num, rfl, by omega, by omega, bstep hbk hw1, Bk.below hw1⟩
        case measure => simp [intOf]; omega
    · obtain rfl : p = q := by omega
      obtain rfl : P = p := by omega
      have q0 := Bk.lt
      have e0 := Bk.ext 0 rfl
      have e1 := Bk.ext 1 rfl
      by_cases hend : P < n
      · have h3 : (P : Int) < (n : Int) := by omega
        have h4 : (0 : Int) ≤ (P : Int) := by omega
        obtain ⟨b, off, rfl, hB, hc⟩ := (HS.out.below hbk).at hend
        have y0 := hc P hend 0 (by omega)
        have y1 := hc P hend 1 (by omega)
        obtain ⟨e, he⟩ : ∃ e, l.getD P (0, 0) = e := ⟨_, rfl⟩
        simp only [tkG, Nat.add_zero, he] at y0 y1
        have y0' := ext_cell y0 (by omega)
        have y1' := ext_cell y1 (by omega)
        have hd : decide (t ∈ l) = decide (e = t) := by
          rw [HD.out, he, decide_eq_decide]
          exact ⟨fun h => h.2, fun h => ⟨by omega, h⟩⟩
        clear hc he y0 y1
        by_cases het : e = t
        · have g0 : (cmpT e t == 0) = true := by simpa using cmpT_zero.2 het
          have G := Lib.hid (hd.trans (decide_eq_true het))
          clear het hd
          go_wp2_with fail
          refine wp_region_ext (by kernel_rfl) (by kernel_rfl) ?_
          repeat (go_big_quiet_step ((first | (go_at_call 43; exact ext_of (cmpT_c e t _)))))
          refine wpQuiet_nil ?_
          rintro _ ⟨⟨w1, hw1⟩, rfl⟩
          go_wp2_with fail
          go_ret2
          rw [G.out]
          exact ⟨rfl, bstep hbk hw1⟩
        · have g0 : (cmpT e t == 0) = false := by simpa using fun h => het (cmpT_zero.1 h)
          have G := Lib.hid (hd.trans (decide_eq_false het))
          clear het hd
          go_wp2_with fail
          refine wp_region_ext (by kernel_rfl) (by kernel_rfl) ?_
          repeat (go_big_quiet_step ((first | (go_at_call 43; exact ext_of (cmpT_c e t _)))))
          refine wpQuiet_nil ?_
          rintro _ ⟨⟨w1, hw1⟩, rfl⟩
          go_wp2_with fail
          go_ret2
          rw [G.out]
          exact ⟨rfl, bstep hbk hw1⟩
      · have h3 : ¬ (P : Int) < (n : Int) := by omega
        have hd : decide (t ∈ l) = false := by
          rw [HD.out]
          exact decide_eq_false (fun h => by omega)
        have G := Lib.hid hd
        clear hd
        go_wp2_with fail
        refine wp_region_ext (by kernel_rfl) (by kernel_rfl) ?_
        repeat (go_big_quiet_step ((first | (go_at_call 43; exact ext_of (cmpT_c _ t _)))))
        refine wpQuiet_nil ?_
        rintro _ ⟨⟨w1, hw1⟩, rfl⟩
        go_wp2_with fail
        go_ret2
        rw [G.out]
        exact ⟨rfl, bstep hbk hw1⟩
end Go.Proofs.Ytjlaikmilcgmhaa
