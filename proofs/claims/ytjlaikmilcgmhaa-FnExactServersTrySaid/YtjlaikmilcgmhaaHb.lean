/- The draw of a register. -/
import Derived.Test.YtjlaikmilcgmhaaHa
import Derived.Deep.RegionLaw
namespace Go.Proofs.Ytjlaikmilcgmhaa
open Go.RowKit
set_option linter.unusedVariables false
attribute [local go_sem ↓] Go.wp_at_zero Go.wp_at_succ

abbrev z0Reg : Obj := Obj.cells #[.int .i64 0, .slice none 0 0] 42
theorem accS_srt {now : Int} {l : TL} (t : Int × Int) (h : Srt l) : Srt (accS now l t) := by
  unfold accS
  split
  · rename_i ha
    unfold accT at ha
    simp only [Bool.and_eq_true, Bool.not_eq_true', decide_eq_false_iff_not] at ha
    exact insT_srt h ha.2
  · exact h
theorem accS_len8 {now : Int} {l : TL} (t : Int × Int) (h : l.length ≤ 8) : (accS now l t).length ≤ 8 := by
  unfold accS
  split
  · rename_i ha
    unfold accT at ha
    simp only [Bool.and_eq_true, decide_eq_true_eq] at ha
    rw [insT_length]; omega
  · exact h
theorem srt_nil : Srt [] := List.Pairwise.nil
/-- A register that was drawn, l its tickets. -/
def RegD (w : World) (bk q : Nat) (now : Int) (l : TL) (sa : Option Addr) (c : Nat) (w' : World) : Prop :=
  RS w bk q w' ∧ w'.ownsRow w.heap.size 30 2 (.slice sa l.length c) l.length (flat l)

theorem RS.old {a w w' : World} {bk p : Nat} (h : RS a bk p w) (hb : Below a.heap.size w w') (hk : bk < a.heap.size) : RS a bk p w' :=
  ⟨h.1.below hb hk, ⟨hb.os.trans h.2.os, hb.tape.trans h.2.tape, hb.output.trans h.2.output, Nat.le_trans h.2.size hb.size, fun i hi hne => (hb.block i hi).trans (h.2.block i hi hne)⟩⟩
theorem l13try_u (now : Int) (t : Int × Int) (a : Option Addr) (n cap : Nat) (l : List (Int × Int)) (w : World) (hl : l.length = n) (hn : n ≤ 8) (hcap : n ≤ cap) (hn1 : -1000000 ≤ now) (hn2 : now ≤ 1000000) (hsrt : Srt l) (S : Sl 2 w w.heap.size a n (tkG l)) :
    Calls Try.prog 33 #[.agg #[.int .i64 now, .slice a n cap], .agg #[.int .i64 t.1, .int .i64 t.2]] w fun e w' =>
      ∃ (a' : Option Addr) (c' : Nat), e = .returned (.tuple #[.agg #[.int .i64 now, .slice a' (accS now l t).length c'], .bool (accT now l t)]) ∧ Below w.heap.size w w' ∧ w'.ownsRow w.heap.size 30 2 (.slice a' (accS now l t).length c') (accS now l t).length (flat (accS now l t)) :=
  l13try_c now t a n cap l w hl hn hcap hn1 hn2 hsrt S

set_option maxHeartbeats 8000000 in
theorem regd_r {w : World} {bk p : Nat} (h : Rdr w bk p) (hp : p ≤ 800000) :
    Calls Try.prog 46 #[.pointer (some ⟨bk, 0, none⟩)] w fun e w' =>
      ∃ (q : Nat) (now : Int) (l : TL) (sa : Option Addr) (c : Nat), e = .returned (.agg #[.int .i64 now, .slice sa l.length c]) ∧ q ≤ p + 60 ∧ l.length ≤ 9 ∧ (-1000 ≤ now ∧ now ≤ 2000) ∧ RegD w bk q now l sa c w' := by
  have hS0 : RS w bk p w := ⟨h, Lo.refl _ _⟩
  have q0 := h.lt
  clear h
  have B0 := Blk.new w #[.int .i64 0, .slice none 0 0] 42
  go_enter Try.func46, Try.ntmps46
  go_wp2_with fail
  refine (pick_s (hS0.alloc _) (by omega) (by omega)).mono ?_
  rintro e w1 ⟨r1, rfl, hr1, hS1, hl1⟩
  have R1 := B0.lo hl1 (by omega)
  have z1 := R1.lt
  clear hS0 B0 hl1
  have hS2 := (hS1.alloc (Obj.cells #[] 30)).alloc (Obj.cells #[.int .i64 (12 + (r1 : Int)), .slice (some ⟨w1.heap.size, 0, none⟩) (0 : Nat) 0] 42)
  have R2 := (R1.alloc (Obj.cells #[] 30)).alloc (Obj.cells #[.int .i64 (12 + (r1 : Int)), .slice (some ⟨w1.heap.size, 0, none⟩) (0 : Nat) 0] 42)
  have O2 := Blk.new (w1.alloc (Obj.cells #[] 30)) #[.int .i64 (12 + (r1 : Int)), .slice (some ⟨w1.heap.size, 0, none⟩) (0 : Nat) 0] 42
  have own2 := (own_made (base := w.heap.size) (Blk.new w1 #[] 30) (by omega)).alloc (Obj.cells #[.int .i64 (12 + (r1 : Int)), .slice (some ⟨w1.heap.size, 0, none⟩) (0 : Nat) 0] 42)
  simp only [World.size_alloc] at O2
  obtain ⟨O, hO⟩ : ∃ O, O = w1.heap.size + 1 := ⟨_, rfl⟩
  obtain ⟨now, hnow⟩ : ∃ now : Int, now = 12 + (r1 : Int) := ⟨_, rfl⟩
  have hn1 : 0 ≤ now ∧ now ≤ 100 := by omega
  clear hS1 R1
  go_wp2_with fail
  simp only [← hO, ← hnow] at hS2 R2 O2 own2 ⊢
  have hOw : w.heap.size < O := by omega
  clear hO hnow z1
  go_loopw [4] (fun i wr => ∃ (k q : Nat) (l : TL) (sa : Option Addr) (c : Nat), k ≤ 10 ∧ i = .int .i64 k ∧ q ≤ p + 1 + 4 * k ∧ RS w bk q wr ∧ Blk wr w.heap.size #[.int .i64 0, .slice none 0 0] 42 ∧ Blk wr O #[.int .i64 now, .slice sa l.length c] 42 ∧ wr.ownsRow w.heap.size 30 2 (.slice sa l.length c) l.length (flat l) ∧ l.length ≤ 8 ∧ Srt l) (fun i _ => 10 - (intOf i).toNat)
  case atStart => exact ⟨0, p + 1, [], _, _, by omega, rfl, by omega, hS2, R2, O2, own2, by simp, srt_nil⟩
  case round =>
    obtain ⟨k, q, l, sa, c, hk, rfl, hq, hSr, Rr, Or, own, hl8, hsr⟩ := hrel
    clear hS2 R2 O2 own2
    go_wp2_with fail
    refine (pick_s hSr (by omega) (by omega)).mono ?_
    rintro e w2 ⟨r, rfl, hr, hS2, hl2⟩
    have R2 := Rr.lo hl2 (by omega)
    have O2 := Or.lo hl2 (by omega)
    have own2 := row_lo own hl2 (by omega)
    have hcap := row_cap own2
    clear hSr Rr Or own hl2
    have HR := Lib.hid hsr
    clear hsr
    by_cases hlt : k < r
    · have hki : (k : Int) < (r : Int) := by omega
      have hA := hS2.drew
      have hA' := (hS2.alloc z0Reg).drew
      have e0 := O2.cell 0 rfl
      have e1 := O2.cell 1 rfl
      have qO := O2.lt
      have hq2 : q + 1 ≤ 900000 := by omega
      have hl20 : l.length ≤ 1048576 := by omega
      have hn3 : -1000000 ≤ now := by omega
      have hn4 : now ≤ 1000000 := by omega
      have hbO : bk ≠ O := by omega
      have hHT := Lib.hid (fun w3 (S3 : Sl 2 w3 w3.heap.size sa l.length (tkG l)) (t : Int × Int) => l13try_u now t sa l.length c l w3 rfl hl8 hcap hn3 hn4 HR.out S3)
      have HK := Lib.hid hq
      clear hq
      go_wp2_with fail
      go_region_held3 (fun w' => w'.cell? ⟨O, 0, none⟩ = some (.int .i64 now) ∧ w'.cell? ⟨O, 1, none⟩ = some (.slice sa l.length c))
        (first | exact ⟨O2.cell 0 rfl, O2.cell 1 rfl⟩ | exact ⟨O3.cell 0 rfl, O3.cell 1 rfl⟩ | exact ⟨O4.cell 0 rfl, O4.cell 1 rfl⟩ | exact ⟨(O2.alloc _).drew.cell 0 rfl, (O2.alloc _).drew.cell 1 rfl⟩ | exact ⟨(O3.alloc _).cell 0 rfl, (O3.alloc _).cell 1 rfl⟩ | exact ⟨(O4.alloc _).cell 0 rfl, (O4.alloc _).cell 1 rfl⟩ | exact ⟨((O4.other (by omega) _ _).other (by omega) _ _).cell 0 rfl, ((O4.other (by omega) _ _).other (by omega) _ _).cell 1 rfl⟩ | go_keep)
        (first
          | (go_at_call 54; with_reducible refine (tkd_s now hA hq2 (by omega) (by omega)).mono ?_; rintro e w3 ⟨t, rfl, hS3, hl3⟩; have O3 := O2.drew.lo hl3 (by omega); have R3 := R2.drew.lo hl3 (by omega); have own3 := row_lo own2.drew hl3 (by omega); have q3 := O3.lt)
          | (go_at_call 54; with_reducible refine (tkd_s now hA' hq2 (by omega) (by omega)).mono ?_; rintro e w3 ⟨t, rfl, hS3, hl3⟩; have O3 := (O2.alloc z0Reg).drew.lo hl3 (by omega); have R3 := (R2.alloc z0Reg).drew.lo hl3 (by omega); have own3 := row_lo (own2.alloc z0Reg).drew hl3 (by omega); have q3 := O3.lt; have N3 := (Blk.new w2 #[.int .i64 0, .slice none 0 0] 42).drew.lo hl3 (by omega))
          | (go_at_call 33; with_reducible refine (hHT.out w3 (row_sl own3 rfl hl20) t).mono ?_; rintro e w4 ⟨a4, c4, rfl, hb4, own4⟩; have O4 := O3.below hb4; have R4 := R3.below hb4; have hS4 := hS3.of hb4; first | (have N4 := N3.below hb4; have n40 := N4.cell 0 rfl; have n41 := N4.cell 1 rfl; have n42 := N4.free 0; have n43 := N4.free 1) | (have wayC : True := trivial))
          | (go_at_call 33; with_reducible refine (hHT.out (w3.alloc z0Reg) (row_sl (own3.alloc z0Reg) rfl hl20) t).mono ?_; rintro e w4 ⟨a4, c4, rfl, hb4, own4⟩; have O4 := (O3.alloc z0Reg).below hb4; have R4 := (R3.alloc z0Reg).below hb4; have hS4 := (hS3.alloc z0Reg).of hb4; have N4 := (Blk.new w3 #[.int .i64 0, .slice none 0 0] 42).below hb4; have n40 := N4.cell 0 rfl; have n41 := N4.cell 1 rfl; have n42 := N4.free 0; have n43 := N4.free 1)
          | fail)
      all_goals
        first
        | have qN := N4.lt
          have q4 := O4.lt
          have o2 := O4.free 0
          have o3 := O4.free 1
          have own5 := row_mono own4 (B' := w.heap.size) (by first | omega | (simp; omega))
          have hne := row_ne own5 O4 (by decide)
          have hnN := row_ne own5 N4 (by decide)
          have HS8 := Lib.hid (accS_srt (now := now) t HR.out)
          have hl8' := accS_len8 (now := now) t hl8
          clear hHT hA hA' hS3 own3 O3 R3 hS2 O2 R2 own2
          go_wp2_with fail
          go_roundw
          case rel =>
            have hq := HK.out
            exact ⟨k + 1, q + 1 + 3, accS now l t, a4, c4, by omega, by go_num, by omega, (((hS4.set (by omega) (by omega) 0 _).set (by omega) (by omega) 1 _).set (by omega) (by omega) 0 _).set (by omega) (by omega) 1 _, (((R4.other (by omega) _ _).other (by omega) _ _).other (by omega) _ _).other (by omega) _ _, (((O4.other (by omega) _ _).other (by omega) _ _).set 0 _).set 1 _, row_sets (row_sets (row_sets (row_sets own5 hnN) hnN) hne) hne, hl8', HS8.out⟩
          case measure => simp [intOf]; omega
        | have _w := wayC
          have own5 := row_mono own4 (B' := w.heap.size) (by omega)
          have o0 := O4.cell 0 rfl
          have o1 := O4.cell 1 rfl
          have o2 := O4.free 0
          have o3 := O4.free 1
          have q4 := O4.lt
          have hne := row_ne own5 O4 (by decide)
          have HS8 := Lib.hid (accS_srt (now := now) t HR.out)
          have hl8' := accS_len8 (now := now) t hl8
          clear hHT hA hA' hS3 own3 O3 R3 hS2 O2 R2 own2
          go_wp2_with fail
          go_roundw
          case rel =>
            have hq := HK.out
            exact ⟨k + 1, q + 1 + 3, accS now l t, a4, c4, by omega, by go_num, by omega, ((hS4.set (by omega) (by omega) 0 _).set (by omega) (by omega) 1 _).alloc _, ((R4.other (by omega) _ _).other (by omega) _ _).alloc _, ((O4.set 0 _).set 1 _).alloc _, (row_sets (row_sets own5 hne) hne).alloc _, hl8', HS8.out⟩
          case measure => simp [intOf]; omega
    · have hki : ¬ (k : Int) < (r : Int) := by omega
      go_wp2_with fail
      refine (pick_s hS2 (by omega) (by omega)).mono ?_
      rintro e w3 ⟨r3, rfl, hr3, hS3, hl3⟩
      have O3 := O2.lo hl3 (by omega)
      have R3 := R2.lo hl3 (by omega)
      have own3 := row_lo own2 hl3 (by omega)
      have q3 := O3.lt
      clear hS2 O2 R2 own2 hl3
      by_cases h0 : r3 = 0
      · have h0' : ((r3 : Int) == 0) = true := by simp [h0]
        clear h0
        go_wp2_with fail
        refine (time_s hS3 (by omega)).mono ?_
        rintro e w4 ⟨tm, q', rfl, ⟨ht1, ht2⟩, hq', hS4, hl4⟩
        have O4 := O3.lo hl4 (by omega)
        have R4 := R3.lo hl4 (by omega)
        have own4 := row_lo own3 hl4 (by omega)
        have q4 := O4.lt
        have o0 := O4.cell 0 rfl
        have o1 := O4.cell 1 rfl
        have o2 := O4.free 0
        have o3 := O4.free 1
        have x0 := R4.cell 0 rfl
        have x1 := R4.cell 1 rfl
        have x2 := R4.free 0
        have x3 := R4.free 1
        have hne := row_ne own4 O4 (by decide)
        have hnR := row_ne own4 R4 (by decide)
        clear hS3 O3 R3 own3 hl4
        go_wp2_with fail
        refine bodyPost_ret (v := .agg #[.int .i64 tm, .slice sa l.length c]) ?_ rfl ⟨q', tm, l, sa, c, rfl, by omega, by omega, by omega, ?_, ?_⟩
        · simp only [results, Try.results46]
          go_simp
        · exact ((hS4.set (by omega) (by omega) 0 _).set (by omega) (by omega) 0 _).set (by omega) (by omega) 1 _
        · exact row_sets (row_sets (row_sets own4 hne) hnR) hnR
      have h0' : ((r3 : Int) == 0) = false := by simp [h0]
      by_cases h1 : r3 = 1
      · have h1' : ((r3 : Int) == 1) = true := by simp [h1]
        clear h0 h1
        have hq3 : q + 1 + 1 ≤ 900000 := by omega
        have hl20 : l.length ≤ 1048575 := by omega
        have hn3 : -1000000 ≤ now := by omega
        have hn4 : now ≤ 1000000 := by omega
        have hbO : O ≠ bk := by omega
        have hbR : w.heap.size ≠ bk := by omega
        have o0 := O3.cell 0 rfl
        have o1 := O3.cell 1 rfl
        have hd := hS3.drew
        go_wp2_with fail
        go_region_law (first
          | (go_simp; go_at_call 54; with_reducible refine (tkd_s now hd hq3 hn3 hn4).mono ?_; rintro e w5 ⟨t, rfl, hS5, hl5⟩; have O5 := O3.drew.lo hl5 hbO; have R5 := R3.drew.lo hl5 hbR; have own5 := row_lo own3.drew hl5 q0; have o50 := O5.cell 0 rfl; have o51 := O5.cell 1 rfl; have q5 := O5.lt; have N6 := Blk.new w5 #[.int .i64 t.1, .int .i64 t.2] 30; have own6 := own5.alloc (Obj.cells #[.int .i64 t.1, .int .i64 t.2] 30); have O6 := O5.alloc (Obj.cells #[.int .i64 t.1, .int .i64 t.2] 30); have R6 := R5.alloc (Obj.cells #[.int .i64 t.1, .int .i64 t.2] 30); have q6 := O6.lt; have hne6 := row_ne own6 O6 (by decide); have hnR6 := row_ne own6 R6 (by decide))
          | (refine step_app (by rfl) _ _ (by rfl) w.heap.size _ l.length (flat l) (some ⟨w5.heap.size, 0, none⟩) 1 1 (w5.heap.size + 1) [t] (by rfl) (by rfl) own6 (sl_one N6) rfl (by omega) (by omega) (l ++ [t]).length (flat (l ++ [t])) (by simp) (by simp [flat]) ?_; intro a7 c7 w7 own7 hg7; have O7 := O6.grown hg7 hne6; have o70 := O7.cell 0 rfl; have o71 := O7.cell 1 rfl; have o72 := O7.free 0; have o73 := O7.free 1)
          | fail)
        all_goals
          have R7 := R6.grown hg7 hnR6
          have hc7 := chg_grown own6 hg7
          have hS7 := (hS5.alloc (Obj.cells #[.int .i64 t.1, .int .i64 t.2] 30)).old (hc7.below (Nat.le_refl _) (by omega)) q0
          have x0 := R7.cell 0 rfl
          have x1 := R7.cell 1 rfl
          have x2 := R7.free 0
          have x3 := R7.free 1
          have q7 := O7.lt
          have hne := row_ne own7 O7 (by decide)
          have hnR := row_ne own7 R7 (by decide)
          clear hd hS3 O3 R3 own3 hS5 hl5 O5 R5 own5 N6 own6 O6 R6 hne6 hnR6 hg7 hc7
          go_wp2_with fail
          refine bodyPost_ret (v := .agg #[.int .i64 now, .slice a7 (l ++ [t]).length c7]) ?_ rfl ⟨q + 1 + 1 + 3, now, l ++ [t], a7, c7, rfl, by omega, by simp; omega, by omega, ?_, ?_⟩
          · simp only [results, Try.results46]
            go_simp
          · exact ((hS7.set (by omega) (by omega) 1 _).set (by omega) (by omega) 0 _).set (by omega) (by omega) 1 _
          · exact row_sets (row_sets (row_sets own7 hne) hnR) hnR
      · have h1' : ((r3 : Int) == 1) = false := by simp; omega
        have o0 := O3.cell 0 rfl
        have o1 := O3.cell 1 rfl
        have x0 := R3.cell 0 rfl
        have x1 := R3.cell 1 rfl
        have x2 := R3.free 0
        have x3 := R3.free 1
        have hnR := row_ne own3 R3 (by decide)
        clear h0 h1
        go_wp2_with fail
        refine bodyPost_ret (v := .agg #[.int .i64 now, .slice sa l.length c]) ?_ rfl ⟨q + 1 + 1, now, l, sa, c, rfl, by omega, by omega, by omega, ?_, ?_⟩
        · simp only [results, Try.results46]
          go_simp
        · exact (hS3.set (by omega) (by omega) 0 _).set (by omega) (by omega) 1 _
        · exact row_sets (row_sets own3 hnR) hnR
theorem regd_s {a w : World} {bk p : Nat} (h : RS a bk p w) (hp : p ≤ 800000) :
    Calls Try.prog 46 #[.pointer (some ⟨bk, 0, none⟩)] w fun e w' =>
      ∃ (q : Nat) (now : Int) (l : TL) (sa : Option Addr) (c : Nat), e = .returned (.agg #[.int .i64 now, .slice sa l.length c]) ∧ q ≤ p + 60 ∧ l.length ≤ 9 ∧ l.length ≤ c ∧ (-1000 ≤ now ∧ now ≤ 2000) ∧ RS a bk q w' ∧ Lo bk w w' ∧ w'.ownsRow w.heap.size 30 2 (.slice sa l.length c) l.length (flat l) :=
  (regd_r h.1 hp).mono fun e w' ⟨q, now, l, sa, c, he, hq, hl, hn, hS, hrow⟩ => ⟨q, now, l, sa, c, he, hq, hl, row_cap hrow, hn, h.trans hS, hS.2, hrow⟩
end Go.Proofs.Ytjlaikmilcgmhaa
