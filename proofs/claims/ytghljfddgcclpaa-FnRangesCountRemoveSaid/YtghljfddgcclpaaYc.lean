/- Ranges without some numbers: both programs. -/
import Derived.Test.YtghljfddgcclpaaYb
import Derived.Deep.RegionLaw
namespace Go.Proofs.Ytghljfddgcclpaa
open Go.RowKit
set_option linter.unusedVariables false

theorem rem_snoc (low high : Int) (l : RL) (r : Int × Int) : rem low high (l ++ [r]) = rem low high l ++ cutR low high r := by simp [rem]
theorem cut_both {low high m M : Int} {r : Int × Int} (h1 : r.1 < low) (h2 : high < r.2) (hm : (if low - 1 < r.2 then low - 1 else r.2) = m) (hM : (if r.1 < high + 1 then high + 1 else r.1) = M) : cutR low high r = [(r.1, m), (M, r.2)] := by
  unfold cutR
  rw [if_pos h1, if_pos h2, ← hm, ← hM]
  show [(r.1, _), (_, r.2)] = _
  congr 2
  · congr 1; split <;> omega
  · congr 2; split <;> omega
theorem cut_lo {low high m : Int} {r : Int × Int} (h1 : r.1 < low) (h2 : ¬ high < r.2) (hm : (if low - 1 < r.2 then low - 1 else r.2) = m) : cutR low high r = [(r.1, m)] := by
  unfold cutR
  rw [if_pos h1, if_neg h2, ← hm]
  show [(r.1, _)] = _
  congr 2; split <;> omega
theorem cut_hi {low high M : Int} {r : Int × Int} (h1 : ¬ r.1 < low) (h2 : high < r.2) (hM : (if r.1 < high + 1 then high + 1 else r.1) = M) : cutR low high r = [(M, r.2)] := by
  unfold cutR
  rw [if_neg h1, if_pos h2, ← hM]
  show [(_, r.2)] = _
  congr 2; split <;> omega
theorem cut_none {low high : Int} {r : Int × Int} (h1 : ¬ r.1 < low) (h2 : ¬ high < r.2) : cutR low high r = [] := by
  unfold cutR
  rw [if_neg h1, if_neg h2]; rfl
theorem cut_len (low high : Int) (r : Int × Int) : (cutR low high r).length ≤ 2 := by
  unfold cutR; split <;> split <;> simp
theorem rem_len (low high : Int) (l : RL) : (rem low high l).length ≤ 2 * l.length := by
  induction l with
  | nil => simp [rem]
  | cons r l ih =>
    have := cut_len low high r
    rw [rem_cons, List.length_append, List.length_cons]; omega
/-- What functions on ranges hand back. -/
def Rng (w : World) (R : RL) (e : Ending) (w' : World) : Prop :=
  ∃ (a : Option Addr) (c : Nat), e = .returned (.slice a R.length c) ∧ Below w.heap.size w w' ∧ Sl 2 w' w'.heap.size a R.length (tkG R)
def RngB (w : World) (R : RL) (V : Bool) (e : Ending) (w' : World) : Prop :=
  ∃ (a : Option Addr) (c : Nat), e = .returned (.tuple #[.slice a R.length c, .bool V]) ∧ Below w.heap.size w w' ∧ Sl 2 w' w'.heap.size a R.length (tkG R)
theorem sl_none (w : World) (a : Option Addr) : Sl 2 w w.heap.size a 0 (tkG []) := ⟨by omega, .inl rfl⟩
theorem row_beyond {w : World} {base k n : Nat} {e : TypeId} {v : Value} {xs : List Value} (h : w.ownsRow base e k v n xs) : v.ownBlock ≠ some w.heap.size := fun g => by
  obtain ⟨a, cap, rfl⟩ := row_form h
  have := (h.lt _ g).2
  omega

set_option maxHeartbeats 8000000 in
theorem removed_c (low high : Int) (a : Option Addr) (n cap : Nat) (l : RL) (w : World) (hl : l.length = n) (hn16 : n ≤ 16) (hlow : -1000 ≤ low ∧ low ≤ 2000) (hhigh : -1000 ≤ high ∧ high ≤ 2000) (S : Sl 2 w w.heap.size a n (tkG l)) :
    Calls Try.prog 16 #[.slice a n cap, .int .i64 low, .int .i64 high] w (Rng w (rem low high l)) := by
  obtain ⟨hlo1, hlo2⟩ := hlow
  obtain ⟨hhi1, hhi2⟩ := hhigh
  have hw1 : IntKind.i64.wrap (low - 1) = low - 1 := IntWalk.i64_in _ (by omega)
  have hw2 : IntKind.i64.wrap (high + 1) = high + 1 := IntWalk.i64_in _ (by omega)
  have HS := Lib.hid S
  clear S
  obtain ⟨i0, hi0, hz0, hs0, hy0⟩ := info_parts infoRn
  have HI := Lib.hid hi0; have HZ := Lib.hid hz0; have HZ1 := Lib.hid hs0; have HY := Lib.hid hy0
  clear hi0 hz0 hs0 hy0
  have hb0 := Below.refl w.heap.size w
  have own0 : w.ownsRow w.heap.size 39 2 (.slice none 0 0) (rem low high (l.take 0)).length (flat (rem low high (l.take 0))) := World.ownsRow_nil _ _ _ _
  go_enter Try.func16, Try.ntmps16
  go_wp2_with fail
  go_loopw [7, 12] (fun v i wr => ∃ (k : Nat), k ≤ n ∧ i = .int .i64 k ∧ Below w.heap.size w wr ∧ wr.ownsRow w.heap.size 39 2 v (rem low high (l.take k)).length (flat (rem low high (l.take k)))) (fun _ i _ => n - (intOf i).toNat)
  case atStart => exact ⟨0, by omega, rfl, hb0, own0⟩
  case round =>
    clear hb0 own0
    obtain ⟨k, hk, rfl, hbk, own⟩ := hrel
    by_cases hlt : k < n
    · have hki : (k : Int) < (n : Int) := by omega
      obtain ⟨b, off, rfl, hB, hcl⟩ := HS.out.at hlt
      have X0 := hcl k hlt 0 (by omega)
      have X1 := hcl k hlt 1 (by omega)
      obtain ⟨r, hr⟩ : ∃ p, l.getD k (0, 0) = p := ⟨_, rfl⟩
      simp only [tkG, Nat.add_zero, hr] at X0 X1
      have HX := Lib.hid (fun (w' : World) (h : Below w.heap.size w w') => And.intro ((h.cell (p := ⟨b, off + k * 2, none⟩) hB).trans X0) ((h.cell (p := ⟨b, off + k * 2 + 1, none⟩) hB).trans X1))
      have ht : rem low high (l.take (k + 1)) = rem low high (l.take k) ++ cutR low high r := by rw [take_at (by omega) hr, rem_snoc]
      have hlen := rem_len low high (l.take k)
      have htk := List.length_take_le k l
      obtain ⟨P, hP⟩ : ∃ P, rem low high (l.take k) = P := ⟨_, rfl⟩
      rw [hP] at ht own hlen
      have HT := Lib.hid ht
      obtain ⟨m, hm⟩ : ∃ m, (if low - 1 < r.2 then low - 1 else r.2) = m := ⟨_, rfl⟩
      obtain ⟨M, hM⟩ : ∃ m, (if r.1 < high + 1 then high + 1 else r.1) = m := ⟨_, rfl⟩
      have hbz : b < wr.heap.size := Nat.lt_of_lt_of_le hB hbk.size
      have hzr := hbk.size
      have x0 := (HX.out _ hbk).1
      have x1 := (HX.out _ hbk).2
      clear hcl X0 X1 hr ht hP
      have B1 := Blk.new wr #[.int .i64 r.1, .int .i64 r.2] 39
      have hb1 := bpush hbk (Obj.cells #[.int .i64 r.1, .int .i64 r.2] 39)
      have own1 := own.alloc (Obj.cells #[.int .i64 r.1, .int .i64 r.2] 39)
      have hne := row_beyond own
      clear own
      by_cases h1 : r.1 < low
      · by_cases h2 : high < r.2
        · have CUTE := Lib.hid (cut_both h1 h2 hm hM)
          have hb2 := bpush hb1 (Obj.cells #[.int .i64 r.1, .int .i64 m] 39)
          have own2 := own1.alloc (Obj.cells #[.int .i64 r.1, .int .i64 m] 39)
          have B2 := B1.alloc (Obj.cells #[.int .i64 r.1, .int .i64 m] 39)
          have N2 := Blk.new (wr.alloc (Obj.cells #[.int .i64 r.1, .int .i64 r.2] 39)) #[.int .i64 r.1, .int .i64 m] 39
          rw [World.size_alloc] at N2
          go_wp2_with (first | (at_builtin; refine wpList_append_lies _ rfl _ _ _ rfl w.heap.size _ i0 _ 2 16 Try.underlying23 HI.out HZ.out HZ1.out HY.out rfl (by omega) _ _ _ rfl own2 ⟨wr.heap.size + 1, 0, none⟩ 1 1 [.int .i64 r.1, .int .i64 m] rfl rfl (World.news_of_block N2) (by simp [Value.oneCell']) (by omega) (by unfold maxLen; omega) (by omega) (by simp; omega) (wr.heap.size + 1 + 1) (by simp) ?_; intro g2 cap2 w2 own3 hgrow2 hat2 hg2; have B3 := B2.grown hgrow2 hne; have e0 := B3.cell 0 rfl; have e1 := B3.cell 1 rfl; have q3 := B3.lt; have hz2 : w.heap.size ≤ w2.heap.size := Nat.le_trans hb2.size hgrow2.size; have own4 := own3.alloc (Obj.cells #[.int .i64 M, .int .i64 r.2] 39); have N4 := Blk.new w2 #[.int .i64 M, .int .i64 r.2] 39) | (at_builtin; refine wpList_append_lies _ rfl _ _ _ rfl w.heap.size _ i0 _ 2 16 Try.underlying23 HI.out HZ.out HZ1.out HY.out rfl (by omega) _ _ _ rfl own4 ⟨w2.heap.size, 0, none⟩ 1 1 [.int .i64 M, .int .i64 r.2] rfl rfl (World.news_of_block N4) (by simp [Value.oneCell']) (by omega) (by unfold maxLen; omega) (by omega) (by simp; omega) (w2.heap.size + 1) (by simp) ?_; intro g2 cap2 w4 own5 hgrow4 hat4 hg2))
          have hc3 := chg_grown own2 hgrow2
          have hb3 := bchg hb2 hc3 (by omega)
          have hb4 := bpush hb3 (Obj.cells #[.int .i64 M, .int .i64 r.2] 39)
          have hc5 := chg_grown own4 hgrow4
          have hb5 := bchg hb4 hc5 (by omega)
          go_roundw
          case rel => exact ⟨k + 1, by omega, by go_num, hb5, by rw [HT.out, CUTE.out, show ∀ x y : Int × Int, P ++ [x, y] = (P ++ [x]) ++ [y] from fun x y => by simp, flat_snoc, flat_snoc, List.length_append, List.length_append]; exact own5⟩
          case measure => simp [intOf]; omega
        · have CUTE := Lib.hid (cut_lo h1 h2 hm)
          have hb2 := bpush hb1 (Obj.cells #[.int .i64 r.1, .int .i64 m] 39)
          have own2 := own1.alloc (Obj.cells #[.int .i64 r.1, .int .i64 m] 39)
          have B2 := B1.alloc (Obj.cells #[.int .i64 r.1, .int .i64 m] 39)
          have N2 := Blk.new (wr.alloc (Obj.cells #[.int .i64 r.1, .int .i64 r.2] 39)) #[.int .i64 r.1, .int .i64 m] 39
          rw [World.size_alloc] at N2
          go_wp2_with (at_builtin; refine wpList_append_lies _ rfl _ _ _ rfl w.heap.size _ i0 _ 2 16 Try.underlying23 HI.out HZ.out HZ1.out HY.out rfl (by omega) _ _ _ rfl own2 ⟨wr.heap.size + 1, 0, none⟩ 1 1 [.int .i64 r.1, .int .i64 m] rfl rfl (World.news_of_block N2) (by simp [Value.oneCell']) (by omega) (by unfold maxLen; omega) (by omega) (by simp; omega) (wr.heap.size + 1 + 1) (by simp) ?_; intro g2 cap2 w2 own3 hgrow2 hat2 hg2; have B3 := B2.grown hgrow2 hne; have e0 := B3.cell 0 rfl; have e1 := B3.cell 1 rfl)
          have hc3 := chg_grown own2 hgrow2
          have hb3 := bchg hb2 hc3 (by omega)
          go_roundw
          case rel => exact ⟨k + 1, by omega, by go_num, hb3, by rw [HT.out, CUTE.out, flat_snoc, List.length_append]; exact own3⟩
          case measure => simp [intOf]; omega
      · by_cases h2 : high < r.2
        · have CUTE := Lib.hid (cut_hi h1 h2 hM)
          have hb2 := bpush hb1 (Obj.cells #[.int .i64 M, .int .i64 r.2] 39)
          have own2 := own1.alloc (Obj.cells #[.int .i64 M, .int .i64 r.2] 39)
          have B2 := B1.alloc (Obj.cells #[.int .i64 M, .int .i64 r.2] 39)
          have N2 := Blk.new (wr.alloc (Obj.cells #[.int .i64 r.1, .int .i64 r.2] 39)) #[.int .i64 M, .int .i64 r.2] 39
          rw [World.size_alloc] at N2
          go_wp2_with (at_builtin; refine wpList_append_lies _ rfl _ _ _ rfl w.heap.size _ i0 _ 2 16 Try.underlying23 HI.out HZ.out HZ1.out HY.out rfl (by omega) _ _ _ rfl own2 ⟨wr.heap.size + 1, 0, none⟩ 1 1 [.int .i64 M, .int .i64 r.2] rfl rfl (World.news_of_block N2) (by simp [Value.oneCell']) (by omega) (by unfold maxLen; omega) (by omega) (by simp; omega) (wr.heap.size + 1 + 1) (by simp) ?_; intro g2 cap2 w2 own3 hgrow2 hat2 hg2; have B3 := B2.grown hgrow2 hne; have e0 := B3.cell 0 rfl; have e1 := B3.cell 1 rfl)
          have hc3 := chg_grown own2 hgrow2
          have hb3 := bchg hb2 hc3 (by omega)
          go_roundw
          case rel => exact ⟨k + 1, by omega, by go_num, hb3, by rw [HT.out, CUTE.out, flat_snoc, List.length_append]; exact own3⟩
          case measure => simp [intOf]; omega
        · clear hm hM
          go_wp2_with fail
          go_roundw
          case rel => exact ⟨k + 1, by omega, by go_num, hb1, by rw [HT.out, cut_none h1 h2, List.append_nil]; exact own1⟩
          case measure => simp [intOf]; omega
    · obtain rfl : k = n := by omega
      obtain ⟨av, cp, rfl⟩ := row_form own
      have hlen := rem_len low high (l.take k)
      have htk := List.length_take_le k l
      rw [List.take_of_length_le (show l.length ≤ k by omega)] at own hlen
      have HSO := Lib.hid (row_sl own rfl (by omega))
      clear own
      rw [List.take_of_length_le (show l.length ≤ k by omega)]
      go_wp2_with fail
      refine bodyPost_ret (v := .slice av (rem low high l).length cp) ?_ rfl ⟨av, cp, rfl, hbk, HSO.out⟩
      simp only [results, Try.results16]
      go_simp

set_option maxHeartbeats 8000000 in
theorem l2remove_c (low high : Int) (a : Option Addr) (n cap : Nat) (l : RL) (w : World) (hl : l.length = n) (hn16 : n ≤ 16) (hlow : -1000 ≤ low ∧ low ≤ 2000) (hhigh : -1000 ≤ high ∧ high ≤ 2000) (S : Sl 2 w w.heap.size a n (tkG l)) :
    Calls Try.prog 19 #[.slice a n cap, .int .i64 low, .int .i64 high] w (Rng w (rem low high l)) := by
  obtain ⟨hlo1, hlo2⟩ := hlow
  obtain ⟨hhi1, hhi2⟩ := hhigh
  have hw1 : IntKind.i64.wrap (low - 1) = low - 1 := IntWalk.i64_in _ (by omega)
  have hw2 : IntKind.i64.wrap (high + 1) = high + 1 := IntWalk.i64_in _ (by omega)
  have HS := Lib.hid S
  clear S
  obtain ⟨i0, hi0, hz0, hs0, hy0⟩ := info_parts infoRn
  have HI := Lib.hid hi0; have HZ := Lib.hid hz0; have HZ1 := Lib.hid hs0; have HY := Lib.hid hy0
  clear hi0 hz0 hs0 hy0
  have hb0 := bpush (Below.refl w.heap.size w) (Obj.cells #[] 39)
  have own0 : (w.alloc (Obj.cells #[] 39)).ownsRow w.heap.size 39 2 (.slice (some ⟨w.heap.size, 0, none⟩) (0 : Nat) 0) (rem low high (l.take 0)).length (flat (rem low high (l.take 0))) := own_rng (Blk.new w #[] 39) (Nat.le_refl _)
  go_enter Try.func19, Try.ntmps19
  go_wp2_with fail
  go_loopw [7, 8] (fun v i wr => ∃ (k : Nat), k ≤ n ∧ i = .int .i64 k ∧ Below w.heap.size w wr ∧ wr.ownsRow w.heap.size 39 2 v (rem low high (l.take k)).length (flat (rem low high (l.take k)))) (fun _ i _ => n - (intOf i).toNat)
  case atStart => exact ⟨0, by omega, rfl, hb0, own0⟩
  case round =>
    clear hb0 own0
    obtain ⟨k, hk, rfl, hbk, own⟩ := hrel
    by_cases hlt : k < n
    · have hki : (k : Int) < (n : Int) := by omega
      obtain ⟨b, off, rfl, hB, hcl⟩ := HS.out.at hlt
      have X0 := hcl k hlt 0 (by omega)
      have X1 := hcl k hlt 1 (by omega)
      obtain ⟨r, hr⟩ : ∃ p, l.getD k (0, 0) = p := ⟨_, rfl⟩
      simp only [tkG, Nat.add_zero, hr] at X0 X1
      have HX := Lib.hid (fun (w' : World) (h : Below w.heap.size w w') => And.intro ((h.cell (p := ⟨b, off + k * 2, none⟩) hB).trans X0) ((h.cell (p := ⟨b, off + k * 2 + 1, none⟩) hB).trans X1))
      have ht : rem low high (l.take (k + 1)) = rem low high (l.take k) ++ cutR low high r := by rw [take_at (by omega) hr, rem_snoc]
      have hlen := rem_len low high (l.take k)
      have htk := List.length_take_le k l
      obtain ⟨P, hP⟩ : ∃ P, rem low high (l.take k) = P := ⟨_, rfl⟩
      rw [hP] at ht own hlen
      have HT := Lib.hid ht
      obtain ⟨m, hm⟩ : ∃ m, (if low - 1 < r.2 then low - 1 else r.2) = m := ⟨_, rfl⟩
      obtain ⟨M, hM⟩ : ∃ m, (if r.1 < high + 1 then high + 1 else r.1) = m := ⟨_, rfl⟩
      have hbz : b < wr.heap.size := Nat.lt_of_lt_of_le hB hbk.size
      have hzr := hbk.size
      have x0 := (HX.out _ hbk).1
      have x1 := (HX.out _ hbk).2
      clear hcl X0 X1 hr ht hP
      by_cases h1 : r.1 < low
      · by_cases h2 : high < r.2
        · have CUTE := Lib.hid (cut_both h1 h2 hm hM)
          have hb2 := bdrew (bpush hbk (Obj.cells #[.int .i64 r.1, .int .i64 m] 39))
          have own2 := (own.alloc (Obj.cells #[.int .i64 r.1, .int .i64 m] 39)).drew
          have N2 := (Blk.new wr #[.int .i64 r.1, .int .i64 m] 39).drew
          go_wp2_with fail
          go_region_law (refine step_append_lies _ (by rfl) _ _ _ (by rfl) w.heap.size 39 i0 _ 2 16 Try.underlying23 HI.out HZ.out HZ1.out HY.out rfl (by omega) _ _ _ (by rfl) own2 ⟨wr.heap.size, 0, none⟩ 1 1 [.int .i64 r.1, .int .i64 m] (by rfl) (by rfl) (World.news_of_block N2) (by simp [Value.oneCell']) (by omega) (by unfold maxLen; omega) (by omega) (by simp; omega) (wr.heap.size + 1) (by simp) ?_; intro g2 cap2 w2 own3 hgrow2 hat2 hg2)
          all_goals
            have hc3 := chg_grown own2 hgrow2
            have hb3 := bchg hb2 hc3 (by omega)
            clear x0 x1 hbz own own2 N2 hb2 hc3 hgrow2 hat2
            have x0 := (HX.out _ hb3).1
            have x1 := (HX.out _ hb3).2
            have hbz : b < w2.heap.size := Nat.lt_of_lt_of_le hB hb3.size
            have hz2 := hb3.size
            have hb4 := bdrew (bpush hb3 (Obj.cells #[.int .i64 M, .int .i64 r.2] 39))
            have own4 := (own3.alloc (Obj.cells #[.int .i64 M, .int .i64 r.2] 39)).drew
            have N4 := (Blk.new w2 #[.int .i64 M, .int .i64 r.2] 39).drew
            go_wp2_with fail
            go_region_law (refine step_append_lies _ (by rfl) _ _ _ (by rfl) w.heap.size 39 i0 _ 2 16 Try.underlying23 HI.out HZ.out HZ1.out HY.out rfl (by omega) _ _ _ (by rfl) own4 ⟨w2.heap.size, 0, none⟩ 1 1 [.int .i64 M, .int .i64 r.2] (by rfl) (by rfl) (World.news_of_block N4) (by simp [Value.oneCell']) (by omega) (by unfold maxLen; omega) (by omega) (by simp; omega) (w2.heap.size + 1) (by simp) ?_; intro g2 cap2 w4 own5 hgrow4 hat4 hg2)
            all_goals
              have hc5 := chg_grown own4 hgrow4
              have hb5 := bchg hb4 hc5 (by omega)
              clear x0 x1 hbz own3 own4 N4 hb4 hc5 hgrow4 hat4
              go_wp2_with fail
              go_roundw
              case rel => exact ⟨k + 1, by omega, by go_num, hb5, by rw [HT.out, CUTE.out, show ∀ x y : Int × Int, P ++ [x, y] = (P ++ [x]) ++ [y] from fun x y => by simp, flat_snoc, flat_snoc, List.length_append, List.length_append]; exact own5⟩
              case measure => simp [intOf]; omega
        · have CUTE := Lib.hid (cut_lo h1 h2 hm)
          have hb2 := bdrew (bpush hbk (Obj.cells #[.int .i64 r.1, .int .i64 m] 39))
          have own2 := (own.alloc (Obj.cells #[.int .i64 r.1, .int .i64 m] 39)).drew
          have N2 := (Blk.new wr #[.int .i64 r.1, .int .i64 m] 39).drew
          go_wp2_with fail
          go_region_law (refine step_append_lies _ (by rfl) _ _ _ (by rfl) w.heap.size 39 i0 _ 2 16 Try.underlying23 HI.out HZ.out HZ1.out HY.out rfl (by omega) _ _ _ (by rfl) own2 ⟨wr.heap.size, 0, none⟩ 1 1 [.int .i64 r.1, .int .i64 m] (by rfl) (by rfl) (World.news_of_block N2) (by simp [Value.oneCell']) (by omega) (by unfold maxLen; omega) (by omega) (by simp; omega) (wr.heap.size + 1) (by simp) ?_; intro g2 cap2 w2 own3 hgrow2 hat2 hg2)
          all_goals
            have hc3 := chg_grown own2 hgrow2
            have hb3 := bchg hb2 hc3 (by omega)
            clear x0 x1 hbz own own2 N2 hb2 hc3 hgrow2 hat2
            have x0 := (HX.out _ hb3).1
            have x1 := (HX.out _ hb3).2
            have hbz : b < w2.heap.size := Nat.lt_of_lt_of_le hB hb3.size
            have hz2 := hb3.size
            go_wp2_with fail
            go_roundw
            case rel => exact ⟨k + 1, by omega, by go_num, hb3, by rw [HT.out, CUTE.out, flat_snoc, List.length_append]; exact own3⟩
            case measure => simp [intOf]; omega
      · by_cases h2 : high < r.2
        · have CUTE := Lib.hid (cut_hi h1 h2 hM)
          have hb2 := bdrew (bpush hbk (Obj.cells #[.int .i64 M, .int .i64 r.2] 39))
          have own2 := (own.alloc (Obj.cells #[.int .i64 M, .int .i64 r.2] 39)).drew
          have N2 := (Blk.new wr #[.int .i64 M, .int .i64 r.2] 39).drew
          go_wp2_with fail
          go_region_law (refine step_append_lies _ (by rfl) _ _ _ (by rfl) w.heap.size 39 i0 _ 2 16 Try.underlying23 HI.out HZ.out HZ1.out HY.out rfl (by omega) _ _ _ (by rfl) own2 ⟨wr.heap.size, 0, none⟩ 1 1 [.int .i64 M, .int .i64 r.2] (by rfl) (by rfl) (World.news_of_block N2) (by simp [Value.oneCell']) (by omega) (by unfold maxLen; omega) (by omega) (by simp; omega) (wr.heap.size + 1) (by simp) ?_; intro g2 cap2 w2 own3 hgrow2 hat2 hg2)
          all_goals
            have hc3 := chg_grown own2 hgrow2
            have hb3 := bchg hb2 hc3 (by omega)
            clear x0 x1 hbz own own2 N2 hb2 hc3 hgrow2 hat2
            have x0 := (HX.out _ hb3).1
            have x1 := (HX.out _ hb3).2
            have hbz : b < w2.heap.size := Nat.lt_of_lt_of_le hB hb3.size
            have hz2 := hb3.size
            go_wp2_with fail
            go_roundw
            case rel => exact ⟨k + 1, by omega, by go_num, hb3, by rw [HT.out, CUTE.out, flat_snoc, List.length_append]; exact own3⟩
            case measure => simp [intOf]; omega
        · clear hm hM
          go_wp2_with fail
          go_roundw
          case rel => exact ⟨k + 1, by omega, by go_num, hbk, by rw [HT.out, cut_none h1 h2, List.append_nil]; exact own⟩
          case measure => simp [intOf]; omega
    · obtain rfl : k = n := by omega
      obtain ⟨av, cp, rfl⟩ := row_form own
      have hlen := rem_len low high (l.take k)
      have htk := List.length_take_le k l
      rw [List.take_of_length_le (show l.length ≤ k by omega)] at own hlen
      have HSO := Lib.hid (row_sl own rfl (by omega))
      clear own
      rw [List.take_of_length_le (show l.length ≤ k by omega)]
      go_wp2_with fail
      refine bodyPost_ret (v := .slice av (rem low high l).length cp) ?_ rfl ⟨av, cp, rfl, hbk, HSO.out⟩
      simp only [results, Try.results19]
      go_simp

end Go.Proofs.Ytghljfddgcclpaa
