/- The draw of an estimate. -/
import Derived.Test.YthaoiaphgmaadaaRs
import Derived.Test.YthaoiaphgmaadaaRq
import Derived.Deep.RegionWith
import Derived.Deep.RegionLaw
import Derived.LoopTactic
namespace Go.Proofs.Ythaoiaphgmaadaa
open Go.RowKit
set_option linter.unusedVariables false

set_option maxHeartbeats 1500000 in
theorem mul_bd (x y : Nat) (h1 : x < 2) (h2 : y < 30) : 0 ≤ (x : Int) * ((y : Int) * 30) ∧ (x : Int) * ((y : Int) * 30) ≤ 870 := by
  rcases show x = 0 ∨ x = 1 by omega with rfl | rfl
  · simp
  · simp; omega

set_option maxHeartbeats 1500000 in
theorem rtt_bd {a b c d : Int} (h : rttOk a b c d = true) : 0 ≤ a ∧ a ≤ 999 := by
  by_cases ha : a = 0
  · omega
  · have := rttOk_t h ha; omega

/-- What holds at the head of the loop. -/
def RLoop (w : World) (bk p : Nat) (k : Nat) (wr : World) : Prop :=
  ∃ q, q ≤ p + 5 * k ∧ RS w bk q wr ∧ Blk wr w.heap.size #[.int .i64 0, .int .i64 0, .int .i64 0, .int .i64 0] 24 ∧ ∃ x0 x1 x2 x3 : Int, rttOk x0 x1 x2 x3 = true ∧ Blk wr (w.heap.size + 1) #[.int .i64 x0, .int .i64 x1, .int .i64 x2, .int .i64 x3] 24

set_option maxHeartbeats 1500000 in
theorem rloop_step {w v7 : World} {bk p k q : Nat} {x0 x1 x2 x3 y0 y1 y2 y3 : Int} (hq : q ≤ p + 5 * (k + 1)) (hS : RS w bk q v7) (hbk : bk < w.heap.size) (D : Blk v7 w.heap.size #[.int .i64 0, .int .i64 0, .int .i64 0, .int .i64 0] 24) (B : Blk v7 (w.heap.size + 1) #[.int .i64 x0, .int .i64 x1, .int .i64 x2, .int .i64 x3] 24)
    (hv : rttOk y0 y1 y2 y3 = true) :
    RLoop w bk p (k + 1) ((((v7.setCell ⟨w.heap.size + 1, 0, none⟩ (.int .i64 y0)).setCell ⟨w.heap.size + 1, 1, none⟩ (.int .i64 y1)).setCell ⟨w.heap.size + 1, 2, none⟩ (.int .i64 y2)).setCell ⟨w.heap.size + 1, 3, none⟩ (.int .i64 y3)) := by
  refine ⟨q, hq, ?_, ?_, y0, y1, y2, y3, hv, ?_⟩
  · exact (((hS.set (by omega) (by omega) _ _).set (by omega) (by omega) _ _).set (by omega) (by omega) _ _).set (by omega) (by omega) _ _
  · exact (((D.other (by omega) _ _).other (by omega) _ _).other (by omega) _ _).other (by omega) _ _
  · exact ((((B.set 0 _).set 1 _).set 2 _).set 3 _)

set_option maxHeartbeats 1500000 in
theorem rtt_r {w : World} {bk p : Nat} (h : Rdr w bk p) (hp : p ≤ 900000) :
    Calls Try.prog 13 #[.pointer (some ⟨bk, 0, none⟩)] w fun e w' =>
      ∃ (x0 x1 x2 x3 : Int) (q : Nat), e = .returned (.agg #[.int .i64 x0, .int .i64 x1, .int .i64 x2, .int .i64 x3]) ∧ q ≤ p + 60 ∧ RS w bk q w' := by
  have hS0 : RS w bk p w := ⟨h, Lo.refl _ _⟩
  have hbk := h.lt
  clear h
  have n2 : w.heap.size ≠ bk := by omega
  have n3 : w.heap.size + 1 ≠ bk := by omega
  have hR0 : RLoop w bk p 0 ((w.alloc (.cells #[.int .i64 0, .int .i64 0, .int .i64 0, .int .i64 0] 24)).alloc (.cells #[.int .i64 0, .int .i64 0, .int .i64 0, .int .i64 0] 24)) :=
    ⟨p, by omega, (hS0.alloc _).alloc _, (Blk.new w _ _).alloc _, 0, 0, 0, 0, rttOk_zero, by have := Blk.new (w.alloc (.cells #[.int .i64 0, .int .i64 0, .int .i64 0, .int .i64 0] 24)) #[.int .i64 0, .int .i64 0, .int .i64 0, .int .i64 0] 24; simpa using this⟩
  have hR0 := Lib.hid hR0
  clear hS0
  go_enter Try.func13, Try.ntmps13
  go_wp2_with fail
  go_loopw [4] (fun i wr => ∃ k : Nat, k ≤ 6 ∧ i = .int .i64 k ∧ RLoop w bk p k wr) (fun i _ => 6 - (intOf i).toNat)
  case atStart => exact ⟨0, by omega, rfl, hR0.out⟩
  case round =>
    obtain ⟨k, hk, rfl, q, hq, hS1, D1, x0, x1, x2, x3, hv, B1⟩ := hrel
    clear hR0
    go_wp2_with fail
    refine (pick_s hS1 (by omega) (by omega)).mono ?_
    rintro e1 v2 ⟨r2, rfl, hr2, hS2, hl2⟩
    have B2 := B1.lo hl2 n3
    have D2 := D1.lo hl2 n2
    have b2c0 := B2.cell 0 rfl
    have b2c1 := B2.cell 1 rfl
    have b2c2 := B2.cell 2 rfl
    have b2c3 := B2.cell 3 rfl
    clear hS1 B1 D1 hl2
    by_cases hlt : k < r2
    · have hi : (k : Int) < (r2 : Int) := by omega
      go_wp2_with fail
      go_region_law (first | (go_simp; go_at_call 14; with_reducible refine (pick_s hS2.drew (by omega) (by omega)).mono ?_; rintro e1 v3 ⟨r3, rfl, hr3, hS3, hl3⟩; have B3 := B2.drew.lo hl3 n3; have D3 := D2.drew.lo hl3 n2; have b3c0 := B3.cell 0 rfl; have b3c1 := B3.cell 1 rfl; have b3c2 := B3.cell 2 rfl; have b3c3 := B3.cell 3 rfl; have e31 : IntKind.i64.wrap (1 + (r3 : Int)) = 1 + r3 := IntWalk.i64_in _ (by omega)) | (go_simp; go_at_call 14; with_reducible refine (pick_s hS3 (by omega) (by omega)).mono ?_; rintro e1 v4 ⟨r4, rfl, hr4, hS4, hl4⟩; have B4 := B3.lo hl4 n3; have D4 := D3.lo hl4 n2; have b4c0 := B4.cell 0 rfl; have b4c1 := B4.cell 1 rfl; have b4c2 := B4.cell 2 rfl; have b4c3 := B4.cell 3 rfl) | (go_simp; go_at_call 14; with_reducible refine (pick_s hS4 (by omega) (by omega)).mono ?_; rintro e1 v5 ⟨r5, rfl, hr5, hS5, hl5⟩; have B5 := B4.lo hl5 n3; have D5 := D4.lo hl5 n2; have b5c0 := B5.cell 0 rfl; have b5c1 := B5.cell 1 rfl; have b5c2 := B5.cell 2 rfl; have b5c3 := B5.cell 3 rfl; have m1 := mul_bd r4 r5 (by omega) (by omega); have e51 : IntKind.i64.wrap ((r5 : Int) * 30) = r5 * 30 := IntWalk.i64_in _ (by omega); have e52 : IntKind.i64.wrap ((r4 : Int) * (r5 * 30)) = r4 * (r5 * 30) := IntWalk.i64_in _ (by omega); have e53 : IntKind.i64.wrap (1 + (r3 : Int) + r4 * (r5 * 30)) = 1 + r3 + r4 * (r5 * 30) := IntWalk.i64_in _ (by omega)) | (go_simp; go_at_call 14; with_reducible refine (pick_s hS5 (by omega) (by omega)).mono ?_; rintro e1 v6 ⟨r6, rfl, hr6, hS6, hl6⟩; have B6 := B5.lo hl6 n3; have D6 := D5.lo hl6 n2; have b6c0 := B6.cell 0 rfl; have b6c1 := B6.cell 1 rfl; have b6c2 := B6.cell 2 rfl; have b6c3 := B6.cell 3 rfl) | (go_simp; go_at_call 18; with_reducible refine (l21_c x0 x1 x2 x3 (1 + (r3 : Int) + r4 * (r5 * 30)) r6 _ (upOk_mk hv (by omega) (by omega))).mono ?_; rintro e1 v7 ⟨rfl, hb7⟩; have hS7 := hS6.of hb7; have B7 := B6.below hb7; have D7 := D6.below hb7; have b7c0 := B7.cell 0 rfl; have b7c1 := B7.cell 1 rfl; have b7c2 := B7.cell 2 rfl; have b7c3 := B7.cell 3 rfl; have b7f0 := B7.free 0; have b7f1 := B7.free 1; have b7f2 := B7.free 2; have b7f3 := B7.free 3))
      all_goals
        go_wp2_with fail
        go_roundw
        case rel => exact ⟨k + 1, by omega, by go_num, rloop_step (by omega) hS7 hbk D7 B7 (up_valid (upOk_mk hv (by omega) (by omega)))⟩
        case measure => simp [intOf]; omega
    · have hi : ¬ (k : Int) < (r2 : Int) := by omega
      go_wp2_with fail
      refine (pick_s hS2 (by omega) (by omega)).mono ?_
      rintro e1 v8 ⟨r7, rfl, hr7, hS8, hl8⟩
      have B8 := B2.lo hl8 n3
      have D8 := D2.lo hl8 n2
      clear hS2 B2 D2 hl8 b2c0 b2c1 b2c2 b2c3 hi
      obtain ⟨xb1, xb2⟩ := rtt_bd hv
      clear hv
      rcases show r7 = 0 ∨ r7 = 1 ∨ r7 = 2 ∨ r7 = 3 ∨ 4 ≤ r7 by omega with rfl | rfl | rfl | rfl | h7
      · go_wp2_with fail
        refine (pick_s hS8 (by omega) (by omega)).mono ?_
        rintro e1 v9 ⟨r8, rfl, hr8, hS9, hl9⟩
        have B9 := B8.lo hl9 n3
        have D9 := D8.lo hl9 n2
        have b9c0 := B9.cell 0 rfl
        have b9c1 := B9.cell 1 rfl
        have b9c2 := B9.cell 2 rfl
        have b9c3 := B9.cell 3 rfl
        have b9f0 := B9.free 0
        have b9f1 := B9.free 1
        have b9f2 := B9.free 2
        have b9f3 := B9.free 3
        have d9c0 := D9.cell 0 rfl
        have d9c1 := D9.cell 1 rfl
        have d9c2 := D9.cell 2 rfl
        have d9c3 := D9.cell 3 rfl
        have d9f0 := D9.free 0
        have d9f1 := D9.free 1
        have d9f2 := D9.free 2
        have d9f3 := D9.free 3
        clear B9 D9
        go_wp2_with fail
        refine bodyPost_ret (v := .agg #[.int .i64 ((r8 : Int) - 1), .int .i64 x1, .int .i64 x2, .int .i64 x3]) ?_ rfl ⟨_, _, _, _, (q + 1 + 1 + 1), rfl, ?_, ?_⟩
        · simp only [results, Try.results13]
          go_simp
        · omega
        · repeat (first | with_reducible exact hS9 | with_reducible refine RS.set ?_ (by omega) (by omega) _ _)
      · have b8c0 := B8.cell 0 rfl
        have b8c1 := B8.cell 1 rfl
        have b8c2 := B8.cell 2 rfl
        have b8c3 := B8.cell 3 rfl
        go_wp2_with fail
        go_region_law (first | (go_simp; go_at_call 14; with_reducible refine (pick_s hS8.drew (by omega) (by omega)).mono ?_; rintro e1 v9 ⟨r8, rfl, hr8, hS9, hl9⟩; have B9 := B8.drew.lo hl9 n3; have D9 := D8.drew.lo hl9 n2; have b9c0 := B9.cell 0 rfl; have b9c1 := B9.cell 1 rfl; have b9c2 := B9.cell 2 rfl; have b9c3 := B9.cell 3 rfl; have b9f0 := B9.free 0; have b9f1 := B9.free 1; have b9f2 := B9.free 2; have b9f3 := B9.free 3; have d9c0 := D9.cell 0 rfl; have d9c1 := D9.cell 1 rfl; have d9c2 := D9.cell 2 rfl; have d9c3 := D9.cell 3 rfl; have d9f0 := D9.free 0; have d9f1 := D9.free 1; have d9f2 := D9.free 2; have d9f3 := D9.free 3; have e91 : IntKind.i64.wrap (x0 + (r8 : Int)) = x0 + r8 := IntWalk.i64_in _ (by omega); have e92 : IntKind.i64.wrap (x0 + (r8 : Int) - 1) = x0 + r8 - 1 := IntWalk.i64_in _ (by omega)))
        all_goals
          clear B9 D9
          go_wp2_with fail
          refine bodyPost_ret (v := .agg #[.int .i64 x0, .int .i64 (x0 + r8 - 1), .int .i64 x2, .int .i64 x3]) ?_ rfl ⟨_, _, _, _, (q + 1 + 1 + 1), rfl, ?_, ?_⟩
          · simp only [results, Try.results13]
            go_simp
          · omega
          · repeat (first | with_reducible exact hS9 | with_reducible refine RS.set ?_ (by omega) (by omega) _ _)
      · go_wp2_with fail
        refine (pick_s (hS8.alloc _) (by omega) (by omega)).mono ?_
        rintro e1 v9 ⟨r8, rfl, hr8, hS9, hl9⟩
        obtain ⟨vv, ⟨hvv, hvv'⟩, hcc⟩ := cell_pick [0, 7, 8, 7999, 8000] 0 8000 _ _ _ _ r8 (by simp; omega) (by simp) hS8.lt hl9
        have B8 := B8.alloc (Obj.cells #[.int .i64 0, .int .i64 7, .int .i64 8, .int .i64 7999, .int .i64 8000] 3)
        have D8 := D8.alloc (Obj.cells #[.int .i64 0, .int .i64 7, .int .i64 8, .int .i64 7999, .int .i64 8000] 3)
        have B9 := B8.lo hl9 n3
        have D9 := D8.lo hl9 n2
        have b9c0 := B9.cell 0 rfl
        have b9c1 := B9.cell 1 rfl
        have b9c2 := B9.cell 2 rfl
        have b9c3 := B9.cell 3 rfl
        have b9f0 := B9.free 0
        have b9f1 := B9.free 1
        have b9f2 := B9.free 2
        have b9f3 := B9.free 3
        have d9c0 := D9.cell 0 rfl
        have d9c1 := D9.cell 1 rfl
        have d9c2 := D9.cell 2 rfl
        have d9c3 := D9.cell 3 rfl
        have d9f0 := D9.free 0
        have d9f1 := D9.free 1
        have d9f2 := D9.free 2
        have d9f3 := D9.free 3
        clear B9 D9
        go_wp2_with fail
        refine bodyPost_ret (v := .agg #[.int .i64 x0, .int .i64 x1, .int .i64 vv, .int .i64 x3]) ?_ rfl ⟨_, _, _, _, (q + 1 + 1 + 1), rfl, ?_, ?_⟩
        · simp only [results, Try.results13]
          go_simp
        · omega
        · repeat (first | with_reducible exact hS9 | with_reducible refine RS.set ?_ (by omega) (by omega) _ _)
      · go_wp2_with fail
        refine (pick_s (hS8.alloc _) (by omega) (by omega)).mono ?_
        rintro e1 v9 ⟨r8, rfl, hr8, hS9, hl9⟩
        obtain ⟨vv, ⟨hvv, hvv'⟩, hcc⟩ := cell_pick [-1, 0, 3999, 4000] (-1) 4000 _ _ _ _ r8 (by simp; omega) (by simp) hS8.lt hl9
        have B8 := B8.alloc (Obj.cells #[.int .i64 (-1), .int .i64 0, .int .i64 3999, .int .i64 4000] 3)
        have D8 := D8.alloc (Obj.cells #[.int .i64 (-1), .int .i64 0, .int .i64 3999, .int .i64 4000] 3)
        have B9 := B8.lo hl9 n3
        have D9 := D8.lo hl9 n2
        have b9c0 := B9.cell 0 rfl
        have b9c1 := B9.cell 1 rfl
        have b9c2 := B9.cell 2 rfl
        have b9c3 := B9.cell 3 rfl
        have b9f0 := B9.free 0
        have b9f1 := B9.free 1
        have b9f2 := B9.free 2
        have b9f3 := B9.free 3
        have d9c0 := D9.cell 0 rfl
        have d9c1 := D9.cell 1 rfl
        have d9c2 := D9.cell 2 rfl
        have d9c3 := D9.cell 3 rfl
        have d9f0 := D9.free 0
        have d9f1 := D9.free 1
        have d9f2 := D9.free 2
        have d9f3 := D9.free 3
        clear B9 D9
        go_wp2_with fail
        refine bodyPost_ret (v := .agg #[.int .i64 x0, .int .i64 x1, .int .i64 x2, .int .i64 vv]) ?_ rfl ⟨_, _, _, _, (q + 1 + 1 + 1), rfl, ?_, ?_⟩
        · simp only [results, Try.results13]
          go_simp
        · omega
        · repeat (first | with_reducible exact hS9 | with_reducible refine RS.set ?_ (by omega) (by omega) _ _)
      · have k0 : ((r7 : Int) == 0) = false := by simp; omega
        have k1 : ((r7 : Int) == 1) = false := by simp; omega
        have k2 : ((r7 : Int) == 2) = false := by simp; omega
        have k3 : ((r7 : Int) == 3) = false := by simp; omega
        have hS9 := hS8
        have B9 := B8
        have D9 := D8
        have b9c0 := B9.cell 0 rfl
        have b9c1 := B9.cell 1 rfl
        have b9c2 := B9.cell 2 rfl
        have b9c3 := B9.cell 3 rfl
        have b9f0 := B9.free 0
        have b9f1 := B9.free 1
        have b9f2 := B9.free 2
        have b9f3 := B9.free 3
        have d9c0 := D9.cell 0 rfl
        have d9c1 := D9.cell 1 rfl
        have d9c2 := D9.cell 2 rfl
        have d9c3 := D9.cell 3 rfl
        have d9f0 := D9.free 0
        have d9f1 := D9.free 1
        have d9f2 := D9.free 2
        have d9f3 := D9.free 3
        clear B9 D9
        go_wp2_with fail
        refine bodyPost_ret (v := .agg #[.int .i64 x0, .int .i64 x1, .int .i64 x2, .int .i64 x3]) ?_ rfl ⟨_, _, _, _, (q + 1 + 1), rfl, ?_, ?_⟩
        · simp only [results, Try.results13]
          go_simp
        · omega
        · repeat (first | with_reducible exact hS9 | with_reducible refine RS.set ?_ (by omega) (by omega) _ _)

set_option maxHeartbeats 1500000 in
theorem rtt_s {a w : World} {bk p : Nat} (h : RS a bk p w) (hp : p ≤ 900000) :
    Calls Try.prog 13 #[.pointer (some ⟨bk, 0, none⟩)] w fun e w' =>
      ∃ (x0 x1 x2 x3 : Int) (q : Nat), e = .returned (.agg #[.int .i64 x0, .int .i64 x1, .int .i64 x2, .int .i64 x3]) ∧ q ≤ p + 60 ∧ RS a bk q w' ∧ Lo bk w w' :=
  (rtt_r h.1 hp).mono fun e w' ⟨x0, x1, x2, x3, q, he, hq, hS⟩ => ⟨x0, x1, x2, x3, q, he, hq, h.trans hS, hS.2⟩
end Go.Proofs.Ythaoiaphgmaadaa
