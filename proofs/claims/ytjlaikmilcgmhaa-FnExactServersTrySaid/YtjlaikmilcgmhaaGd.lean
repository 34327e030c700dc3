/- The validity of a register: the reference. -/
import Derived.Test.YtjlaikmilcgmhaaGc
namespace Go.Proofs.Ytjlaikmilcgmhaa
open Go.RowKit
set_option linter.unusedVariables false

theorem regOk_noM {now lo : Int} {l : List (Int × Int)} {i : Nat} (hm : IntKind.i64.wrap (now - 10) = lo) (hi : i < l.length) (h : tkAt lo now l i = false) : regOk now l = false := by
  cases b : inB now 0 999
  · unfold regOk; rw [b]; rfl
  · obtain ⟨h1, h2⟩ : 0 ≤ now ∧ now ≤ 999 := by simpa [inB] using b
    rw [IntWalk.i64_in _ (by omega)] at hm
    rw [← hm] at h
    exact regOk_no hi h
theorem regOk_allM {now lo : Int} {l : List (Int × Int)} (hm : IntKind.i64.wrap (now - 10) = lo) (h : ∀ i, i < l.length → tkAt lo now l i = true) : regOk now l = (inB now 0 999 && decide (l.length ≤ 8)) := by
  cases b : inB now 0 999
  · unfold regOk; rw [b]; rfl
  · obtain ⟨h1, h2⟩ : 0 ≤ now ∧ now ≤ 999 := by simpa [inB] using b
    rw [IntWalk.i64_in _ (by omega)] at hm
    rw [← hm] at h
    unfold regOk
    have : (List.range l.length).all (tkAt (now - 10) now l) = true := by simpa using h
    rw [b, this]; simp

set_option maxHeartbeats 2000000 in
theorem rvalid_spec (now : Int) (a : Option Addr) (n cap : Nat) (l : List (Int × Int)) (w : World) (hl : l.length = n) (S : Sl 2 w w.heap.size a n (tkG l)) :
    Calls Try.prog 17 #[.agg #[.int .i64 now, .slice a n cap]] w fun e w' => e = .returned (.bool (regOk now l)) ∧ Below w.heap.size w w' := by
  obtain ⟨lo, hm⟩ : ∃ m, IntKind.i64.wrap (now - 10) = m := ⟨_, rfl⟩
  have hn := S.len
  have HS := Lib.hid S; clear S
  go_enter Try.func17, Try.ntmps17
  go_wp2_with fail
  have hb0 := bpush (Below.refl w.heap.size w) (Obj.cells #[.int .i64 now, .slice a n cap] 42)
  have B0 := Blk.new w #[.int .i64 now, .slice a n cap] 42
  go_loopw [3] (fun i wr => ∃ k : Nat, k ≤ n ∧ i = .int .i64 k ∧ (∀ j, j < k → tkAt lo now l j = true) ∧ Below w.heap.size w wr ∧ Blk wr w.heap.size #[.int .i64 now, .slice a n cap] 42) (fun i _ => n - (intOf i).toNat)
  case atStart => exact ⟨0, by omega, rfl, fun j hj => by omega, hb0, B0⟩
  case round =>
    obtain ⟨k, hk, rfl, hall, hbk, Bk⟩ := hrel
    clear hb0 B0
    have c0 := Bk.cell 0 rfl
    have c1 := Bk.cell 1 rfl
    by_cases hlt : k < n
    · have hki : (k : Int) < (n : Int) := by omega
      obtain ⟨b, off, rfl, hB, hc⟩ := (HS.out.below hbk).at hlt
      have x0 := hc k hlt 0 (by omega)
      have x1 := hc k hlt 1 (by omega)
      simp only [tkG, Nat.add_zero] at x0 x1
      have q := Bk.lt
      have q' : b < wr.heap.size := by omega
      obtain ⟨p, hp⟩ : ∃ p, l.getD k (0, 0) = p := ⟨_, rfl⟩
      have HP := Lib.hid hp
      rw [hp] at x0 x1
      clear hp
      have hb1 := bpush hbk (Obj.cells #[.int .i64 p.1, .int .i64 p.2] 30)
      have Ck := Blk.new wr #[.int .i64 p.1, .int .i64 p.2] 30
      have Bk' := Bk.alloc (Obj.cells #[.int .i64 p.1, .int .i64 p.2] 30)
      have HC := Lib.hid hc
      have HM := Lib.hid hm
      clear hc hm
      go_wp2_with fail
      have hm := HM.out
      clear c0 c1
      generalize hwr : wr.alloc (Obj.cells #[.int .i64 p.1, .int .i64 p.2] 30) = wx at *
      have e0 := Bk'.ext 0 rfl
      have e1 := Bk'.ext 1 rfl
      have f0 := Ck.ext 0 rfl
      have f1 := Ck.ext 1 rfl
      have hsz : b < wx.heap.size := by rw [← hwr]; simp; omega
      have HW := Lib.hid hwr
      clear hwr x0 x1
      rcases tk_cases lo now p with ⟨p1, P⟩ | ⟨p1, p2, P⟩ | ⟨p1, p2, P⟩
      case inr.inr =>
        rcases Nat.eq_zero_or_pos k with hz | hpos
        · have HF := Lib.hid (tkAt_zero (lo := lo) (hi := now) (l := l) (b := true) hz (by rw [HP.out]; exact P))
          have hz1 : decide ((0 : Int) < (k : Int)) = false := decide_eq_false (by omega)
          have hz2 : decide (0 < k) = false := decide_eq_false (by omega)
          clear P hz
          refine wp_region_ext (by kernel_rfl) (by kernel_rfl) ?_
          repeat (go_big_quiet_step ((first | (go_at_call 30; exact ext_of (isT_spec _ _ _)) | (go_at_call 31; exact ext_same (l6In_c _ _ _ _)))))
          refine wpQuiet_nil ?_
          rintro _ ⟨⟨w1, hw1⟩, rfl⟩
          clear e0 e1 f0 f1 hm
          go_wp2
          go_roundw
          case rel => exact ⟨k + 1, by omega, by go_num, all_step hall HF.out, bstep hb1 hw1, Bk'.below hw1⟩
          case measure => simp [intOf]; omega
        · obtain ⟨j, rfl⟩ : ∃ j, k = j + 1 := ⟨k - 1, by omega⟩
          have y0 := HC.out j (by omega) 0 (by omega)
          have y1 := HC.out j (by omega) 1 (by omega)
          simp only [tkG, Nat.add_zero] at y0 y1
          have F := tkAt_succ (lo := lo) (hi := now) (l := l) (j := j) (by rw [HP.out]; exact P)
          rw [HP.out] at F
          generalize l.getD j (0, 0) = p' at *
          have y0' := ext_cell (w := wx) (by rw [← HW.out]; exact (World.cell?_alloc_lt _ _ _ (World.block_lt_of_cell? _ _ y0)).trans y0) hsz
          have y1' := ext_cell (w := wx) (by rw [← HW.out]; exact (World.cell?_alloc_lt _ _ _ (World.block_lt_of_cell? _ _ y1)).trans y1) hsz
          have g3 : decide ((0 : Int) < (j : Int) + 1) = true := decide_eq_true (by omega)
          have g4 : IntKind.i64.wrap ((j : Int) + 1 - 1) = j := by rw [IntWalk.i64_in _ (by omega)]; omega
          have g5 : IntKind.i64.wrap (j : Int) = j := IntWalk.i64_in _ (by omega)
          have g6 : (j : Int) < (n : Int) := by omega
          clear P y0 y1
          cases hlt' : tkLt p' p
          · have G := Lib.hid (regOk_noM (now := now) (l := l) (i := j + 1) hm (by omega) (F.trans hlt'))
            clear F hall
            refine wp_region_ext (by kernel_rfl) (by kernel_rfl) ?_
            repeat (go_big_quiet_step ((first | (go_at_call 30; exact ext_of (isT_spec _ _ _)) | (go_at_call 31; exact ext_same (l6In_c _ _ _ _)) | (go_at_call 40; exact ext_of (less_c _ _ _)))))
            refine wpQuiet_nil ?_
            rintro _ ⟨⟨w1, hw1⟩, rfl⟩
            go_wp2
            go_ret
            rw [G.out]
            exact ⟨rfl, bstep hb1 hw1⟩
          · have HF := Lib.hid (F.trans hlt')
            clear F
            refine wp_region_ext (by kernel_rfl) (by kernel_rfl) ?_
            repeat (go_big_quiet_step ((first | (go_at_call 30; exact ext_of (isT_spec _ _ _)) | (go_at_call 31; exact ext_same (l6In_c _ _ _ _)) | (go_at_call 40; exact ext_of (less_c _ _ _)))))
            refine wpQuiet_nil ?_
            rintro _ ⟨⟨w1, hw1⟩, rfl⟩
            clear e0 e1 f0 f1 y0' y1' hm
            go_wp2
            go_roundw
            case rel => exact ⟨j + 1 + 1, by omega, by go_num, all_step hall HF.out, bstep hb1 hw1, Bk'.below hw1⟩
            case measure => simp [intOf]; omega
      all_goals
        have G := Lib.hid (regOk_noM (now := now) (l := l) (i := k) hm (by omega) (tkAt_no (by rw [HP.out]; exact P)))
        clear P hall
        refine wp_region_ext (by kernel_rfl) (by kernel_rfl) ?_
        repeat (go_big_quiet_step ((first | (go_at_call 30; exact ext_of (isT_spec _ _ _)) | (go_at_call 31; exact ext_same (l6In_c _ _ _ _)))))
        refine wpQuiet_nil ?_
        rintro _ ⟨⟨w1, hw1⟩, rfl⟩
        go_wp2
        go_ret
        rw [G.out]
        exact ⟨rfl, bstep hb1 hw1⟩
    · obtain rfl : k = n := by omega
      have E := Lib.hid (regOk_allM hm (by rw [hl]; exact hall))
      have z : decide (l.length ≤ 8) = decide ((k : Int) ≤ 8) := by
        rw [decide_eq_decide]; omega
      rw [z] at E
      clear z hall hm
      cases b1 : inB now 0 999
      all_goals
        rw [b1] at E
        go_wp2_with (go_at_call 31; refine (l6In_c _ _ _ _).mono ?_; rintro e w' ⟨rfl, rfl⟩)
        go_ret
        rw [E.out]
        exact ⟨rfl, hbk⟩
end Go.Proofs.Ytjlaikmilcgmhaa
