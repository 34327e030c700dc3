/- The draw of ranges. -/
import Derived.Test.YtghljfddgcclpaaYd
namespace Go.Proofs.Ytghljfddgcclpaa
open Go.RowKit
set_option linter.unusedVariables false

theorem RS.grown {a w w' : World} {bk p base k n : Nat} {e : TypeId} {v : Value} {xs : List Value} (h : RS a bk p w) (own : w.ownsRow base e k v n xs) (hg : w.grownBy w' v.ownBlock) (hb : bk < base) (ha : a.heap.size ≤ base) (hz : base ≤ w.heap.size) : RS a bk p w' := by
  have hc := chg_grown own hg
  exact ⟨h.1.below (hc.below (Nat.le_refl _) hz) hb, ⟨hc.os.trans h.2.os, hc.tape.trans h.2.tape, hc.output.trans h.2.output, Nat.le_trans h.2.size hc.size, fun i hi hne => (hc.block i (Nat.lt_of_lt_of_le hi h.2.size) (by omega)).trans (h.2.block i hi hne)⟩⟩
/-- Ranges in a slice of the call's own. -/
def GotR (w : World) (m : Nat) (e : Ending) (w' : World) : Prop :=
  ∃ (a : Option Addr) (c : Nat) (l : RL), e = .returned (.slice a l.length c) ∧ l.length ≤ m ∧ Below w.heap.size w w' ∧ w'.ownsRow w.heap.size 39 2 (.slice a l.length c) l.length (flat l)
theorem len_snoc (P : RL) (r : Int × Int) : (P ++ [r]).length = P.length + 1 := by simp
theorem own_snoc {w : World} {base : Nat} {v : Value} {P : RL} {r : Int × Int} (h : w.ownsRow base 39 2 v (P.length + 1) (flat P ++ [.int .i64 r.1, .int .i64 r.2])) : w.ownsRow base 39 2 v (P ++ [r]).length (flat (P ++ [r])) := by
  rw [flat_snoc, len_snoc]; exact h
theorem own_snoc2 {w : World} {base : Nat} {v : Value} {P : RL} {q r : Int × Int} (h : w.ownsRow base 39 2 v (P.length + 1 + 1) (flat P ++ [.int .i64 q.1, .int .i64 q.2] ++ [.int .i64 r.1, .int .i64 r.2])) : w.ownsRow base 39 2 v (P ++ [q] ++ [r]).length (flat (P ++ [q] ++ [r])) := by
  rw [flat_snoc, flat_snoc, len_snoc, len_snoc]; exact h

set_option maxHeartbeats 8000000 in
theorem l2add_c (lo0 up0 : Int) (a : Option Addr) (n cap : Nat) (l : RL) (w : World) (hl : l.length = n) (hn1 : n ≤ 1000) (S : Sl 2 w w.heap.size a n (tkG l)) :
    Calls Try.prog 30 #[.slice a n cap, .int .i64 lo0, .int .i64 up0] w (GotR w (n + 1)) := by
  have HS := Lib.hid S
  clear S
  obtain ⟨i0, hi0, hz0, hs0, hy0⟩ := info_parts infoRn
  have HI := Lib.hid hi0; have HZ := Lib.hid hz0; have HZ1 := Lib.hid hs0; have HY := Lib.hid hy0
  clear hi0 hz0 hs0 hy0
  have hb0 := bpush (Below.refl w.heap.size w) (Obj.cells #[] 39)
  have own0 : (w.alloc (Obj.cells #[] 39)).ownsRow w.heap.size 39 2 (.slice (some ⟨w.heap.size, 0, none⟩) (0 : Nat) 0) ([] : RL).length (flat []) := own_rng (Blk.new w #[] 39) (Nat.le_refl _)
  go_enter Try.func30, Try.ntmps30
  go_wp2_with fail
  go_loopw [1, 2, 7, 8, 9] (fun s1 s2 v s8 i wr => ∃ (k : Nat) (x y : Int) (p : Bool) (P : RL), k ≤ n ∧ i = .int .i64 k ∧ s1 = .int .i64 x ∧ s2 = .int .i64 y ∧ s8 = .bool p ∧ P.length ≤ k + p.toNat ∧ Below w.heap.size w wr ∧ wr.ownsRow w.heap.size 39 2 v P.length (flat P)) (fun _ _ _ _ i _ => n - (intOf i).toNat)
  case atStart => exact ⟨0, lo0, up0, false, [], by omega, rfl, rfl, rfl, rfl, by simp, hb0, own0⟩
  case round =>
    clear hb0 own0
    obtain ⟨k, x, y, p, P, hk, rfl, rfl, rfl, rfl, hP, hbk, own⟩ := hrel
    have hsz := hbk.size
    by_cases hlt : k < n
    · have hki : (k : Int) < (n : Int) := by omega
      obtain ⟨b, off, rfl, hB, hcl⟩ := (HS.out.below hbk).at hlt
      have X0 := hcl k hlt 0 (by omega)
      have X1 := hcl k hlt 1 (by omega)
      obtain ⟨r, hr⟩ : ∃ p, l.getD k (0, 0) = p := ⟨_, rfl⟩
      simp only [tkG, Nat.add_zero, hr] at X0 X1
      have HX := Lib.hid (fun (w' : World) (h : Below w.heap.size w w') => And.intro (((HS.out.below h).at hlt)) True.intro)
      have hbz : b < wr.heap.size := Nat.lt_of_lt_of_le hB hbk.size
      obtain ⟨wx, hwx⟩ : ∃ z, IntKind.i64.wrap (x - 1) = z := ⟨_, rfl⟩
      obtain ⟨wy, hwy⟩ : ∃ z, IntKind.i64.wrap (y + 1) = z := ⟨_, rfl⟩
      have x0 := X0
      have x1 := X1
      clear hcl hr X0 X1 HX
      by_cases h1 : r.2 < wx
      · cases p
        all_goals
          simp only [Bool.toNat_false, Bool.toNat_true, Nat.add_zero] at hP
          have N_ := Blk.new wr #[.int .i64 r.1, .int .i64 r.2] 39
          have own_ := own.alloc (Obj.cells #[.int .i64 r.1, .int .i64 r.2] 39)
          have hb_ := bpush hbk (Obj.cells #[.int .i64 r.1, .int .i64 r.2] 39)
          clear own
          go_wp2_with (at_builtin; refine wpList_append_lies _ rfl _ _ _ rfl w.heap.size _ i0 _ 2 16 Try.underlying23 HI.out HZ.out HZ1.out HY.out rfl (by omega) _ _ _ rfl own_ ⟨wr.heap.size, 0, none⟩ 1 1 [.int .i64 r.1, .int .i64 r.2] rfl rfl (World.news_of_block N_) (by simp [Value.oneCell']) (by omega) (by unfold maxLen; omega) (by omega) (by simp; omega) (wr.heap.size + 1) (by simp) ?_; intro g2 cap2 w2 own2 hg_ hat_ hl_)
          have hb2 := bchg hb_ (chg_grown own_ hg_) (Nat.le_refl _)
          go_roundw
          case rel => exact ⟨k + 1, x, y, _, P ++ [r], by omega, by go_num, rfl, rfl, rfl, by simp; omega, hb2, own_snoc own2⟩
          case measure => simp [intOf]; omega
      · by_cases h2 : wy < r.1
        · cases p
          · simp only [Bool.toNat_false, Nat.add_zero] at hP
            have N_ := Blk.new wr #[.int .i64 x, .int .i64 y] 39
            have own_ := own.alloc (Obj.cells #[.int .i64 x, .int .i64 y] 39)
            have hb_ := bpush hbk (Obj.cells #[.int .i64 x, .int .i64 y] 39)
            clear own
            have HXB := Lib.hid (fun (w' : World) (h : Below w.heap.size w w') => And.intro ((h.cell (p := ⟨b, off + k * 2, none⟩) hB)) ((h.cell (p := ⟨b, off + k * 2 + 1, none⟩) hB)))
            have y0 := ((HXB.out _ hbk).1).symm.trans x0
            have y1 := ((HXB.out _ hbk).2).symm.trans x1
            have HY0 := Lib.hid y0
            have HY1 := Lib.hid y1
            clear y0 y1
            go_wp2_with (first | (at_builtin; refine wpList_append_lies _ rfl _ _ _ rfl w.heap.size _ i0 _ 2 16 Try.underlying23 HI.out HZ.out HZ1.out HY.out rfl (by omega) _ _ _ rfl own_ ⟨wr.heap.size, 0, none⟩ 1 1 [.int .i64 x, .int .i64 y] rfl rfl (World.news_of_block N_) (by simp [Value.oneCell']) (by omega) (by unfold maxLen; omega) (by omega) (by simp; omega) (wr.heap.size + 1) (by simp) ?_; intro g2 cap2 w2 own2 hg_ hat_ hl_; have hb2 := bchg hb_ (chg_grown own_ hg_) (Nat.le_refl _); have x20 := (HXB.out _ hb2).1.trans HY0.out; have x21 := (HXB.out _ hb2).2.trans HY1.out; have hz2 : w.heap.size ≤ w2.heap.size := hb2.size; have hbz2 : b < w2.heap.size := Nat.lt_of_lt_of_le hB hb2.size; have own3 := own2.alloc (Obj.cells #[.int .i64 r.1, .int .i64 r.2] 39); have N3 := Blk.new w2 #[.int .i64 r.1, .int .i64 r.2] 39; have hb3 := bpush hb2 (Obj.cells #[.int .i64 r.1, .int .i64 r.2] 39)) | (at_builtin; refine wpList_append_lies _ rfl _ _ _ rfl w.heap.size _ i0 _ 2 16 Try.underlying23 HI.out HZ.out HZ1.out HY.out rfl (by omega) _ _ _ rfl own3 ⟨w2.heap.size, 0, none⟩ 1 1 [.int .i64 r.1, .int .i64 r.2] rfl rfl (World.news_of_block N3) (by simp [Value.oneCell']) (by omega) (by unfold maxLen; omega) (by omega) (by simp; omega) (w2.heap.size + 1) (by simp) ?_; intro g4 cap4 w4 own4 hg4 hat4 hl4))
            have hb4 := bchg hb3 (chg_grown own3 hg4) (Nat.le_refl _)
            go_roundw
            case rel => exact ⟨k + 1, x, y, true, P ++ [(x, y)] ++ [r], by omega, by go_num, rfl, rfl, rfl, by simp; omega, hb4, own_snoc2 (q := (x, y)) own4⟩
            case measure => simp [intOf]; omega
          · simp only [Bool.toNat_true] at hP
            have N_ := Blk.new wr #[.int .i64 r.1, .int .i64 r.2] 39
            have own_ := own.alloc (Obj.cells #[.int .i64 r.1, .int .i64 r.2] 39)
            have hb_ := bpush hbk (Obj.cells #[.int .i64 r.1, .int .i64 r.2] 39)
            clear own
            go_wp2_with (at_builtin; refine wpList_append_lies _ rfl _ _ _ rfl w.heap.size _ i0 _ 2 16 Try.underlying23 HI.out HZ.out HZ1.out HY.out rfl (by omega) _ _ _ rfl own_ ⟨wr.heap.size, 0, none⟩ 1 1 [.int .i64 r.1, .int .i64 r.2] rfl rfl (World.news_of_block N_) (by simp [Value.oneCell']) (by omega) (by unfold maxLen; omega) (by omega) (by simp; omega) (wr.heap.size + 1) (by simp) ?_; intro g2 cap2 w2 own2 hg_ hat_ hl_)
            have hb2 := bchg hb_ (chg_grown own_ hg_) (Nat.le_refl _)
            go_roundw
            case rel => exact ⟨k + 1, x, y, _, P ++ [r], by omega, by go_num, rfl, rfl, rfl, by simp; omega, hb2, own_snoc own2⟩
            case measure => simp [intOf]; omega
        · obtain ⟨m, hm⟩ : ∃ m, (if r.1 < x then r.1 else x) = m := ⟨_, rfl⟩
          obtain ⟨M, hM⟩ : ∃ m, (if y < r.2 then r.2 else y) = m := ⟨_, rfl⟩
          go_wp2_with fail
          go_roundw
          case rel => exact ⟨k + 1, _, _, p, P, by omega, by go_num, rfl, rfl, rfl, by omega, hbk, own⟩
          case measure => simp [intOf]; omega
    · obtain rfl : k = n := by omega
      obtain ⟨av, cp, rfl⟩ := row_form own
      cases p
      · simp only [Bool.toNat_false, Nat.add_zero] at hP
        have N_ := Blk.new wr #[.int .i64 x, .int .i64 y] 39
        have own_ := own.alloc (Obj.cells #[.int .i64 x, .int .i64 y] 39)
        have hb_ := bpush hbk (Obj.cells #[.int .i64 x, .int .i64 y] 39)
        clear own
        go_wp2_with (at_builtin; refine wpList_append_lies _ rfl _ _ _ rfl w.heap.size _ i0 _ 2 16 Try.underlying23 HI.out HZ.out HZ1.out HY.out rfl (by omega) _ _ _ rfl own_ ⟨wr.heap.size, 0, none⟩ 1 1 [.int .i64 x, .int .i64 y] rfl rfl (World.news_of_block N_) (by simp [Value.oneCell']) (by omega) (by unfold maxLen; omega) (by omega) (by simp; omega) (wr.heap.size + 1) (by simp) ?_; intro g2 cap2 w2 own2 hg_ hat_ hl_)
        have hb2 := bchg hb_ (chg_grown own_ hg_) (Nat.le_refl _)
        go_ret
        exact ⟨_, cap2, P ++ [(x, y)], by rw [len_snoc]; rfl, by rw [len_snoc]; omega, hb2, by have := own_snoc (r := (x, y)) own2; rw [len_snoc] at this ⊢; exact this⟩
      · simp only [Bool.toNat_true] at hP
        go_wp2_with fail
        go_ret
        exact ⟨av, cp, P, rfl, hP, hbk, own⟩

set_option maxHeartbeats 4000000 in
theorem set_c {bk p : Nat} (w : World) (h : Rdr w bk p) (hp : p ≤ 1000) :
    Calls Try.prog 27 #[.pointer (some ⟨bk, 0, none⟩), .int .i64 40] w fun e w' => ∃ (q : Nat) (a : Option Addr) (c : Nat) (l : RL), e = .returned (.slice a l.length c) ∧ l.length ≤ 5 ∧ q ≤ p + 100 ∧ RS w bk q w' ∧ w'.ownsRow w.heap.size 39 2 (.slice a l.length c) l.length (flat l) := by
  have hbB := h.lt
  have hS0 := (show RS w bk p w from ⟨h, Lo.refl _ _⟩).alloc (Obj.cells #[] 39)
  have own0 : (w.alloc (Obj.cells #[] 39)).ownsRow w.heap.size 39 2 (.slice (some ⟨w.heap.size, 0, none⟩) (0 : Nat) 0) ([] : RL).length (flat []) := own_rng (Blk.new w #[] 39) (Nat.le_refl _)
  clear h
  go_enter Try.func27, Try.ntmps27
  go_wp2_with fail
  go_loopw [5, 6, 7] (fun v i s7 wr => ∃ (k q : Nat) (P : RL), k ≤ 5 ∧ i = .int .i64 k ∧ q ≤ p + 10 * k ∧ P.length ≤ k ∧ RS w bk q wr ∧ wr.ownsRow w.heap.size 39 2 v P.length (flat P)) (fun _ i _ _ => 5 - (intOf i).toNat)
  case atStart => exact ⟨0, p, [], by omega, rfl, by omega, by simp, hS0, own0⟩
  case round =>
    clear hS0 own0
    obtain ⟨k, q, P, hk, rfl, hq, hP, hSr, ownr⟩ := hrel
    obtain ⟨av, cp, rfl⟩ := row_form ownr
    go_wp2_with fail
    refine (pick_s hSr (by omega) (by omega)).mono ?_
    rintro e w2 ⟨r, rfl, hr, hS2, hl2⟩
    have own2 := row_lo ownr hl2 hbB
    clear hSr ownr hl2
    by_cases hlt : k < r
    · have hki : (k : Int) < (r : Int) := by omega
      go_wp2_with fail
      refine (pick_s hS2 (by omega) (by omega)).mono ?_
      rintro e w3 ⟨r3, rfl, hr3, hS3, hl3⟩
      have own3 := row_lo own2 hl3 hbB
      clear hS2 own2 hl3
      go_wp2_with fail
      refine (pick_s hS3 (by omega) (by omega)).mono ?_
      rintro e w4 ⟨r4, rfl, hr4, hS4, hl4⟩
      have own4 := row_lo own3 hl4 hbB
      have z4 := hS4.2.size
      have SL4 := Lib.hid (row_sl own4 rfl (by omega))
      obtain ⟨m, hm⟩ : ∃ m, (if (39 : Int) < (r3 : Int) + (r4 : Int) then (39 : Int) else (r3 : Int) + (r4 : Int)) = m := ⟨_, rfl⟩
      clear hS3 own3 hl4
      go_wp2_with fail
      refine (l2add_c _ _ av _ cp P w4 rfl (by omega) SL4.out).mono ?_
      rintro e w5 ⟨a5, c5, P5, rfl, hP5, hb5, own5⟩
      have own6 := row_mono own5 z4
      have hS5 := hS4.of hb5
      clear own4 hS4 own5
      go_wp2_with fail
      go_roundw
      case rel => exact ⟨k + 1, q + 1 + 1 + 1, P5, by omega, by go_num, by omega, by omega, hS5, own6⟩
      case measure => simp [intOf]; omega
    · have hki : ¬ ((k : Int) < (r : Int)) := by omega
      go_wp2_with fail
      go_ret
      exact ⟨q + 1, av, cp, P, rfl, by omega, by omega, hS2, own2⟩

theorem span_c {bk p : Nat} (w : World) (h : Rdr w bk p) (hp : p ≤ 10000) :
    Calls Try.prog 23 #[.pointer (some ⟨bk, 0, none⟩)] w fun e w' => ∃ (q : Nat) (x y : Int), e = .returned (.tuple #[.int .i64 x, .int .i64 y]) ∧ (-1000 ≤ x ∧ x ≤ 2000) ∧ (-1000 ≤ y ∧ y ≤ 2000) ∧ RS w bk q w' := by
  have hS0 := (show RS w bk p w from ⟨h, Lo.refl _ _⟩)
  clear h
  go_enter Try.func23, Try.ntmps23
  go_wp2_with fail
  refine (pick_s hS0 (by omega) (by omega)).mono ?_
  rintro e w1 ⟨r1, rfl, hr1, hS1, hl1⟩
  clear hS0
  go_wp2_with fail
  refine (pick_s hS1 (by omega) (by omega)).mono ?_
  rintro e w2 ⟨r2, rfl, hr2, hS2, hl2⟩
  clear hS1
  by_cases h0 : r2 = 0
  · subst h0
    go_wp2_with fail
    refine (pick_s hS2 (by omega) (by omega)).mono ?_
    rintro e w3 ⟨r3, rfl, hr3, hS3, hl3⟩
    clear hS2
    go_wp2_with fail
    refine (pick_s hS3 (by omega) (by omega)).mono ?_
    rintro e w4 ⟨r4, rfl, hr4, hS4, hl4⟩
    clear hS3
    go_wp2_with fail
    refine bodyPost_ret (v := .tuple #[.int .i64 (997 + (r3 : Int)), .int .i64 (997 + (r3 : Int) + (r4 : Int) - 1)]) ?_ rfl ⟨_, _, _, rfl, by omega, by omega, hS4⟩
    simp only [results, Try.results23]
    go_simp
  · have h0' : ((r2 : Int) == 0) = false := by simp; omega
    have h0i : ¬ (r2 : Int) = 0 := by omega
    go_wp2_with fail
    refine (pick_s hS2 (by omega) (by omega)).mono ?_
    rintro e w4 ⟨r4, rfl, hr4, hS4, hl4⟩
    clear hS2
    go_wp2_with fail
    refine bodyPost_ret (v := .tuple #[.int .i64 ((r1 : Int) - 2), .int .i64 ((r1 : Int) - 2 + (r4 : Int) - 1)]) ?_ rfl ⟨_, _, _, rfl, by omega, by omega, hS4⟩
    simp only [results, Try.results23]
    go_simp
end Go.Proofs.Ytghljfddgcclpaa
