/- The draw of boxes: the walk. -/
import Derived.Test.YtdnkopnhpffcdaaVj
import Derived.Deep.RegionLaw
namespace Go.Proofs.Ytdnkopnhpffcdaa
open Go.RowKit
set_option linter.unusedVariables false
attribute [local go_sem ↓] Go.wp_at_zero Go.wp_at_succ

theorem own_box {w : World} {base b : Nat} (h : Blk w b #[] 33) (hb : base ≤ b) : BxR w base (.slice (some ⟨b, 0, none⟩) (0 : Nat) 0) [] :=
  ⟨⟨rfl, .inr ⟨b, 0, #[], rfl, hb, h, Nat.le_refl _, by unfold maxLen; omega, rfl, rfl⟩⟩, fun t m => by cases m⟩
theorem made_ints (r : Nat) : (madeCells (Value.int .i64 0).cells (r * 1)).toList = ints (List.replicate r 0) := by
  rw [Nat.mul_one]
  apply List.ext_getElem
  · simp [madeCells, ints]
  · intro i h1 h2
    simp [madeCells, ints, Value.cells, Nat.mod_one]
theorem BxR.snoc {w : World} {base g cap : Nat} {bl : BL} {t : Int × List Int × Option Addr × Nat} (h : w.ownsRow base 33 2 (.slice (some ⟨g, 0, none⟩) (bl.length + 1) cap) (bl.length + 1) (bxC bl ++ [.int .i64 t.1, .slice t.2.2.1 t.2.1.length t.2.2.2]))
    (h1 : ∀ t ∈ bl, w.ownsRow base 3 1 (inV t) t.2.1.length (ints t.2.1)) (h2 : w.ownsRow base 3 1 (inV t) t.2.1.length (ints t.2.1)) : BxR w base (.slice (some ⟨g, 0, none⟩) (bl.length + 1) cap) (bl ++ [t]) := by
  refine ⟨by rw [bxC_snoc, List.length_append]; exact h, fun u m => ?_⟩
  rcases List.mem_append.1 m with m | m
  · exact h1 u m
  · rw [List.mem_singleton.1 m]; exact h2
theorem len_snoc {bl : BL} {t : Int × List Int × Option Addr × Nat} {m : Nat} (h : ∀ t ∈ bl, t.2.1.length ≤ m) (ht : t.2.1.length ≤ m) : ∀ u ∈ bl ++ [t], u.2.1.length ≤ m := by
  intro u hu
  rcases List.mem_append.1 hu with hu | hu
  · exact h u hu
  · rw [List.mem_singleton.1 hu]; exact ht

set_option maxHeartbeats 8000000 in
theorem bx_r {w : World} {bk p : Nat} (h : Rdr w bk p) (hp : p ≤ 700000) :
    Calls Try.prog 38 #[.pointer (some ⟨bk, 0, none⟩)] w fun e w' => ∃ (q : Nat) (bl : BL) (a : Option Addr) (c : Nat), e = .returned (.slice a bl.length c) ∧ q ≤ p + 300 ∧ bl.length ≤ 10 ∧ (∀ t ∈ bl, t.2.1.length ≤ 5) ∧ RS w bk q w' ∧ BxR w' w.heap.size (.slice a bl.length c) bl := by
  have hS0 : RS w bk p w := ⟨h, Lo.refl _ _⟩
  have q0 := h.lt
  clear h
  obtain ⟨i0, hi0, hz0, hs0, hy0⟩ := info_parts infoIn
  have HI := Lib.hid hi0
  have HZ := Lib.hid hz0
  have HZ1 := Lib.hid hs0
  have HY := Lib.hid hy0
  obtain ⟨j0, hj0, gz0, gs0, gy0⟩ := info_parts infoBx
  have GI := Lib.hid hj0
  have GZ := Lib.hid gz0
  have GZ1 := Lib.hid gs0
  have GY := Lib.hid gy0
  clear hi0 hz0 hs0 hy0 hj0 gz0 gs0 gy0
  have hS1 := hS0.alloc (Obj.cells #[] 33)
  have own1 := own_box (Blk.new w #[] 33) (Nat.le_refl w.heap.size)
  clear hS0
  go_enter Try.func38, Try.ntmps38
  go_wp2_with fail
  go_loopw [3, 4] (fun v i wr => ∃ (k q : Nat) (bl : BL), k ≤ 9 ∧ i = .int .i64 k ∧ q ≤ p + 20 * k ∧ RS w bk q wr ∧ BxR wr w.heap.size v bl ∧ bl.length ≤ k ∧ ∀ t ∈ bl, t.2.1.length ≤ 5) (fun _ i _ => 9 - (intOf i).toNat)
  case atStart => exact ⟨0, p, [], by omega, rfl, by omega, hS1, own1, by simp, fun t m => by cases m⟩
  case round =>
    obtain ⟨k, q, bl, hk, rfl, hq, hSr, ownr, hLk, hml⟩ := hrel
    clear hS1 own1
    have HML := Lib.hid hml
    clear hml
    go_wp2_with fail
    refine (pick_s hSr (by omega) (by omega)).mono ?_
    rintro e w2 ⟨r, rfl, hr, hS2, hl2⟩
    have own2 := ownr.lo hl2 q0
    clear hSr ownr hl2
    by_cases hlt : k < r
    · have hki : (k : Int) < (r : Int) := by omega
      go_wp2_with fail
      refine (atom_s hS2 (by omega)).mono ?_
      rintro e w3 ⟨x, q3, rfl, hx, hq3, hS3, hl3⟩
      have own3 := own2.lo hl3 q0
      have hz3 := hS3.2.size
      obtain ⟨H0, hH0⟩ : ∃ H0, H0 = w3.heap.size := ⟨_, rfl⟩
      have HV0 := Lib.hid (fun g h => (rows_lt own3.1 g h).2)
      have HN0 := Lib.hid (fun t m g h => (rows_lt (own3.2 t m) g h).2)
      have hS4 := (hS3.alloc (Obj.cells #[] 3)).alloc (Obj.cells #[.int .i64 x, .slice (some ⟨w3.heap.size, 0, none⟩) (0 : Nat) 0] 33)
      have own4 := (own3.alloc (Obj.cells #[] 3)).alloc (Obj.cells #[.int .i64 x, .slice (some ⟨w3.heap.size, 0, none⟩) (0 : Nat) 0] 33)
      have K4 := Blk.new (w3.alloc (Obj.cells #[] 3)) #[.int .i64 x, .slice (some ⟨w3.heap.size, 0, none⟩) (0 : Nat) 0] 33
      have cur4 := (own_emp (base := w3.heap.size) (Blk.new w3 #[] 3) (Nat.le_refl _)).alloc (Obj.cells #[.int .i64 x, .slice (some ⟨w3.heap.size, 0, none⟩) (0 : Nat) 0] 33)
      simp only [World.size_alloc] at K4
      clear hS2 own2 hl3 hS3 own3
      go_wp2_with fail
      rw [← hH0] at hS4 own4 K4 cur4 HV0 HN0 hz3 ⊢
      obtain ⟨W4, hW4⟩ : ∃ X, X = (w3.alloc (Obj.cells #[] 3)).alloc (Obj.cells #[.int .i64 x, .slice (some ⟨H0, 0, none⟩) (0 : Nat) 0] 33) := ⟨_, rfl⟩
      rw [← hW4] at hS4 own4 K4 cur4 ⊢
      clear hW4 hH0
      go_loopw [6] (fun i wr => ∃ (j q' : Nat) (L : List Int) (a : Option Addr) (c : Nat), j ≤ 3 ∧ i = .int .i64 j ∧ q' ≤ q3 + 3 * j ∧ L.length ≤ j ∧ RS w bk q' wr ∧ BxR wr w.heap.size u3 bl ∧ Blk wr (H0 + 1) #[.int .i64 x, .slice a L.length c] 33 ∧ wr.ownsRow H0 3 1 (.slice a L.length c) L.length (ints L)) (fun i _ => 3 - (intOf i).toNat)
      case atStart => exact ⟨0, q3, [], _, _, by omega, rfl, by omega, by simp, hS4, own4, K4, cur4⟩
      case round =>
        clear hS4 own4 K4 cur4
        obtain ⟨j, q', L, a, c, hj, rfl, hq', hLj, hS5, own5, K5, cur5⟩ := hrel
        go_wp2_with fail
        refine (pick_s hS5 (by omega) (by omega)).mono ?_
        rintro e w6 ⟨r6, rfl, hr6, hS6, hl6⟩
        have own6 := own5.lo hl6 q0
        have hbH : bk < H0 := by omega
        have K6 := K5.lo hl6 (by omega)
        have cur6 := row_lo cur5 hl6 hbH
        have k60 := K6.cell 0 rfl
        have k61 := K6.cell 1 rfl
        have q6 := K6.lt
        clear hS5 own5 K5 cur5 hl6
        by_cases hjl : j < 1 + r6
        · have hji : (j : Int) < 1 + (r6 : Int) := by omega
          have hd := hS6.drew
          have hq6 : q' + 1 ≤ 900000 := by omega
          have hKb : H0 + 1 ≠ bk := by omega
          have hHs : H0 ≤ w6.heap.size := by omega
          go_wp2_with fail
          go_region_law (first
            | (go_simp; go_at_call 52; with_reducible refine (atom_s hd hq6).mono ?_; rintro e w7 ⟨x7, q7, rfl, hx7, hq7, hS7, hl7⟩; have own7 := own6.drew.lo hl7 q0; have K7 := K6.drew.lo hl7 hKb; have cur7 := row_lo cur6.drew hl7 hbH; have k70 := K7.cell 0 rfl; have k71 := K7.cell 1 rfl; have q7' := K7.lt; have N8 := Blk.new w7 #[.int .i64 x7] 3; have own8 := own7.alloc (Obj.cells #[.int .i64 x7] 3); have K8 := K7.alloc (Obj.cells #[.int .i64 x7] 3); have cur8 := cur7.alloc (Obj.cells #[.int .i64 x7] 3); have hS8 := hS7.alloc (Obj.cells #[.int .i64 x7] 3); have hne8 := row_ne cur8 K8 (by decide); have hlL : L.length ≤ 1000 := (by omega))
            | (refine step_append_lies _ (by rfl) _ _ _ (by rfl) H0 3 i0 _ 1 8 Try.underlying24 HI.out HZ.out HZ1.out HY.out rfl (by omega) _ _ _ (by rfl) cur8 ⟨w7.heap.size, 0, none⟩ 1 1 [.int .i64 x7] (by rfl) (by rfl) (World.news_of_block N8) (by simp [Value.oneCell']) (by omega) (by unfold maxLen; omega) (by omega) (by simp; omega) (w7.heap.size + 1) (by simp) ?_; intro g2 cap2 w9 cur9 hgrow hat hg2; have K9 := K8.grown hgrow hne8; have k90 := K9.cell 0 rfl; have k91 := K9.cell 1 rfl; have k92 := K9.free 0; have k93 := K9.free 1)
            | fail)
          all_goals
            have own9 := own8.grown hgrow (rows_ne own8.1 cur8 (by decide)) (fun t m g h e => by have h1 := HN0.out t m g h; have h2 := (rows_lt cur8 g e).1; omega)
            have hc9 := chg_grown cur8 hgrow
            have hS9 := hS8.old (hc9.below (by omega) (by simp; omega)) q0
            have hg2' : g2 ≠ H0 + 1 := by
              intro e
              rcases hat with h | h
              · rw [e] at h; exact hne8 h
              · omega
            have hv9 : u3.ownBlock ≠ some (H0 + 1) := fun h => by have := HV0.out _ h; omega
            rw [← ints_snoc] at cur9
            have cur9' : w9.ownsRow H0 3 1 (.slice (some ⟨g2, 0, none⟩) (L ++ [x7]).length cap2) (L ++ [x7]).length (ints (L ++ [x7])) := by rw [List.length_append]; exact cur9
            clear hd k60 k61 k70 k71 own6 K6 cur6 hS6 own7 K7 cur7 hS7 hl7 own8 K8 cur8 hS8 N8 hgrow hc9 cur9
            go_wp2_with fail
            go_roundw
            case rel => exact ⟨j + 1, q7, L ++ [x7], some ⟨g2, 0, none⟩, cap2, by omega, by go_num, by omega, by simp; omega, hS9.set (by omega) (by omega) 1 _, own9.setv K9 hv9, by have := K9.set 1 (.slice (some ⟨g2, 0, none⟩) (L ++ [x7]).length cap2); rw [List.length_append] at this ⊢; exact this, row_sets cur9' (by simp only [Value.ownBlock, ne_eq, Option.some.injEq]; exact hg2')⟩
            case measure => simp [intOf]; omega
        · have hji : ¬ (j : Int) < 1 + (r6 : Int) := by omega
          have own7 := own6.alloc (Obj.cells #[.int .i64 x, .slice a L.length c] 33)
          have cur7 := cur6.alloc (Obj.cells #[.int .i64 x, .slice a L.length c] 33)
          have hS7 := hS6.alloc (Obj.cells #[.int .i64 x, .slice a L.length c] 33)
          have N7 := Blk.new w6 #[.int .i64 x, .slice a L.length c] 33
          have row7 := own7.1
          have HN7 := Lib.hid own7.2
          clear own6 cur6 hS6 own7 K6
          go_wp2_with (at_builtin; refine wpList_append_lies _ rfl _ _ _ rfl w.heap.size _ j0 _ 2 32 Try.underlying23 GI.out GZ.out GZ1.out GY.out rfl (by omega) _ _ _ rfl row7 ⟨w6.heap.size, 0, none⟩ 1 1 [.int .i64 x, .slice a L.length c] rfl rfl (World.news_of_block N7) (by simp [Value.oneCell']) (by omega) (by unfold maxLen; omega) (by omega) (by simp; omega) (w6.heap.size + 1) (by simp) ?_; intro g2 cap2 w9 row9 hgrow hat hg2)
          have hc9 := chg_grown row7 hgrow
          have hS9 := hS7.old (hc9.below (Nat.le_refl _) (by simp; omega)) q0
          have hin9 : ∀ t ∈ bl, w9.ownsRow w.heap.size 3 1 (inV t) t.2.1.length (ints t.2.1) := fun t m => row_grown (HN7.out t m) hgrow (rows_ne (HN7.out t m) row7 (by decide))
          have cur9 := row_mono (row_grown cur7 hgrow (rows_ne cur7 row7 (by decide))) (B' := w.heap.size) (by omega)
          have own9 := BxR.snoc (t := (x, L, a, c)) row9 hin9 cur9
          go_roundw
          case rel => exact ⟨k + 1, _, bl ++ [(x, L, a, c)], by omega, by go_num, by omega, hS9, own9, by simp; omega, len_snoc HML.out (by show L.length ≤ 5; omega)⟩
          case measure => simp [intOf]; omega
    · have hki : ¬ (k : Int) < (r : Int) := by omega
      go_wp2_with fail
      refine (pick_s hS2 (by omega) (by omega)).mono ?_
      rintro e w3 ⟨r3, rfl, hr3, hS3, hl3⟩
      have own3 := own2.lo hl3 q0
      clear hS2 own2 hl3
      by_cases h0 : r3 = 0
      · have h0' : ((r3 : Int) == 0) = true := by simp [h0]
        clear h0
        go_wp2_with fail
        refine (pick_s hS3 (by omega) (by omega)).mono ?_
        rintro e w4 ⟨r4, rfl, hr4, hS4, hl4⟩
        have own4 := own3.lo hl4 q0
        clear hS3 own3 hl4
        go_wp2_with fail
        refine (pick_s hS4 (by omega) (by omega)).mono ?_
        rintro e w5 ⟨r5, rfl, hr5, hS5, hl5⟩
        have own5 := own4.lo hl5 q0
        have hz5 := hS5.2.size
        clear hS4 own4 hl5
        have hr4' : (r4 : Int) < 5 := hr4
        have hml' := HML.out
        have HML3 := Lib.hid hml'
        clear hml'
        go_wp2_with (first
          | (at_make; refine wpList_make_full w5 rfl _ _ _ rfl w.heap.size _ i0 _ 1 Try.underlying24 HI.out HZ.out HZ1.out _ _ _ _ r5 rfl rfl rfl rfl (by rw [HY.out]; omega) (by unfold maxLen; omega) (by omega) ?_; intro w6 hown hgrow6; have hb6 := grown_below hgrow6; have own6 := own5.below hb6; have row7 := (own6.alloc (Obj.cells #[.int .i64 (1 + (r4 : Int)), .slice (some ⟨w5.heap.size, 0, none⟩) (r5 : Nat) r5] 33)).1; have N7 := Blk.new w6 #[.int .i64 (1 + (r4 : Int)), .slice (some ⟨w5.heap.size, 0, none⟩) (r5 : Nat) r5] 33; have hz6 := hb6.size)
          | (at_builtin; refine wpList_append_lies _ rfl _ _ _ rfl w.heap.size _ j0 _ 2 32 Try.underlying23 GI.out GZ.out GZ1.out GY.out rfl (by omega) _ _ _ rfl row7 ⟨w6.heap.size, 0, none⟩ 1 1 [.int .i64 (1 + (r4 : Int)), .slice (some ⟨w5.heap.size, 0, none⟩) (r5 : Nat) r5] rfl rfl (World.news_of_block N7) (by simp [Value.oneCell']) (by omega) (by unfold maxLen; omega) (by omega) (by simp; omega) (w6.heap.size + 1) (by simp) ?_; intro g2 cap2 w9 row9 hgrow hat hg2)
          | fail)
        rw [made_ints] at hown
        have own7 := own6.alloc (Obj.cells #[.int .i64 (1 + (r4 : Int)), .slice (some ⟨w5.heap.size, 0, none⟩) (r5 : Nat) r5] 33)
        have cur7 := hown.alloc (Obj.cells #[.int .i64 (1 + (r4 : Int)), .slice (some ⟨w5.heap.size, 0, none⟩) (r5 : Nat) r5] 33)
        have hS7 := (hS5.of hb6).alloc (Obj.cells #[.int .i64 (1 + (r4 : Int)), .slice (some ⟨w5.heap.size, 0, none⟩) (r5 : Nat) r5] 33)
        have hc9 := chg_grown row7 hgrow
        have hS9 := hS7.old (hc9.below (Nat.le_refl _) (by simp; omega)) q0
        have hin9 : ∀ t ∈ bl, w9.ownsRow w.heap.size 3 1 (inV t) t.2.1.length (ints t.2.1) := fun t m => row_grown (own7.2 t m) hgrow (rows_ne (own7.2 t m) row7 (by decide))
        have cur9 := row_grown cur7 hgrow (rows_ne cur7 row7 (by decide))
        have own9 := BxR.snoc (t := (1 + (r4 : Int), List.replicate r5 0, some ⟨w5.heap.size, 0, none⟩, r5)) (by simpa using row9) hin9 (by simpa [inV] using cur9)
        go_ret
        exact ⟨_, bl ++ [(1 + (r4 : Int), List.replicate r5 0, some ⟨w5.heap.size, 0, none⟩, r5)], some ⟨g2, 0, none⟩, cap2, by rw [List.length_append]; rfl, by omega, by simp; omega, len_snoc HML3.out (by simp; omega), hS9, by rw [List.length_append]; exact own9⟩
      · have h0' : ((r3 : Int) == 0) = false := by simp [h0]
        clear h0
        have hfm := row_form own3.1
        obtain ⟨av, cv, rfl⟩ := hfm
        have HML2 := Lib.hid HML.out
        go_wp2_with fail
        go_ret
        exact ⟨_, bl, av, cv, rfl, by omega, by omega, HML.out, hS3, own3⟩
end Go.Proofs.Ytdnkopnhpffcdaa
