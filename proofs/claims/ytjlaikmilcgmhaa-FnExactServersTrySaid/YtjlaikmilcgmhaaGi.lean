/- Time goes on: the reference. -/
import Derived.Test.YtjlaikmilcgmhaaGh
import Derived.Deep.DrawnRows
namespace Go.Proofs.Ytjlaikmilcgmhaa
open Go.RowKit
set_option linter.unusedVariables false
attribute [local go_sem ↓] Go.wp_at_zero Go.wp_at_succ

theorem Blk.grown {w w' : World} {b : Nat} {cs : Array Value} {T : TypeId} {row : Option Nat} (h : Blk w b cs T) (hg : w.grownBy w' row) (hne : row ≠ some b) : Blk w' b cs T :=
  (hg.block b h.lt (Ne.symm hne)).trans h
theorem row_other {w : World} {base k n b j g cap : Nat} {e : TypeId} {u : Value} {xs : List Value} (h : w.ownsRow base e k (.slice (some ⟨g, 0, none⟩) n cap) n xs) (hb : g ≠ b) : (w.setCell ⟨b, j, none⟩ u).ownsRow base e k (.slice (some ⟨g, 0, none⟩) n cap) n xs := by
  obtain ⟨hl, ⟨h, _⟩ | ⟨g', cap', cur, h, hg, hc, h'⟩⟩ := h
  · cases h
  · have h0 := h
    simp only [Value.slice.injEq, Option.some.injEq, Addr.mk.injEq] at h0
    exact ⟨hl, .inr ⟨g', cap', cur, h, hg, (Below.heap_setCell w _ u g' (by simp; omega)).trans hc, h'⟩⟩
/-- What a function that hands back one register leaves. -/
def Regd (w : World) (now : Int) (l : TL) (e : Ending) (w' : World) : Prop :=
  ∃ (a : Option Addr) (cap : Nat), e = .returned (.agg #[.int .i64 now, .slice a l.length cap]) ∧ Below w.heap.size w w' ∧ Ow 2 w' w.heap.size a l.length (tkG l)

set_option maxHeartbeats 2000000 in
theorem l13tick_c (now c : Int) (a : Option Addr) (n cap : Nat) (l : List (Int × Int)) (w : World) (hl : l.length = n) (hn : n ≤ 1048576) (hc1 : -1000000 ≤ c) (hc2 : c ≤ 1000000) (S : Sl 2 w w.heap.size a n (tkG l)) :
    Calls Try.prog 48 #[.agg #[.int .i64 now, .slice a n cap], .int .i64 c] w (Regd w c (tickL c l)) := by
  have hb0 := bpush (bpush (bpush (bpush (Below.refl w.heap.size w) (Obj.cells #[.int .i64 now, .slice a n cap] 42)) (Obj.cells #[.int .i64 0, .slice none 0 0] 42)) (Obj.cells #[] 30)) (Obj.cells #[.int .i64 c, .slice (some ⟨w.heap.size + 1 + 1, 0, none⟩) (0 : Nat) 0] 42)
  have B0 := (((Blk.new w #[.int .i64 now, .slice a n cap] 42).alloc (Obj.cells #[.int .i64 0, .slice none 0 0] 42)).alloc (Obj.cells #[] 30)).alloc (Obj.cells #[.int .i64 c, .slice (some ⟨w.heap.size + 1 + 1, 0, none⟩) (0 : Nat) 0] 42)
  have R0 := ((Blk.new (w.alloc (Obj.cells #[.int .i64 now, .slice a n cap] 42)) #[.int .i64 0, .slice none 0 0] 42).alloc (Obj.cells #[] 30)).alloc (Obj.cells #[.int .i64 c, .slice (some ⟨w.heap.size + 1 + 1, 0, none⟩) (0 : Nat) 0] 42)
  have O0 := Blk.new (((w.alloc (Obj.cells #[.int .i64 now, .slice a n cap] 42)).alloc (Obj.cells #[.int .i64 0, .slice none 0 0] 42)).alloc (Obj.cells #[] 30)) #[.int .i64 c, .slice (some ⟨w.heap.size + 1 + 1, 0, none⟩) (0 : Nat) 0] 42
  have own0 : ((((w.alloc (Obj.cells #[.int .i64 now, .slice a n cap] 42)).alloc (Obj.cells #[.int .i64 0, .slice none 0 0] 42)).alloc (Obj.cells #[] 30)).alloc (Obj.cells #[.int .i64 c, .slice (some ⟨w.heap.size + 1 + 1, 0, none⟩) (0 : Nat) 0] 42)).ownsRow (w.heap.size + 1 + 1) 30 2 (.slice (some ⟨w.heap.size + 1 + 1, 0, none⟩) (0 : Nat) 0) (tickL c (l.take 0)).length (flat (tickL c (l.take 0))) := by
    have := (World.ownsRow_made (e := 30) (size := 2) (base := w.heap.size + 1 + 1) ((w.alloc (Obj.cells #[.int .i64 now, .slice a n cap] 42)).alloc (Obj.cells #[.int .i64 0, .slice none 0 0] 42)) #[] 0 (by simp) (by unfold maxLen; omega) rfl).alloc (Obj.cells #[.int .i64 c, .slice (some ⟨w.heap.size + 1 + 1, 0, none⟩) (0 : Nat) 0] 42)
    simpa [tickL, flat] using this
  simp only [World.size_alloc] at R0 O0
  have hlc : ∀ k, (tickL c (l.take k)).length ≤ k := tick_len c l
  have HL := Lib.hid hlc
  have HS := Lib.hid S
  obtain ⟨i0, hi0, hz0, hs0, hy0⟩ := info_parts infoTk
  have HI := Lib.hid hi0; have HZ := Lib.hid hz0; have HZ1 := Lib.hid hs0; have HY := Lib.hid hy0
  clear hi0 hz0 hs0 hy0 hlc S
  go_enter Try.func48, Try.ntmps48
  go_wp2_with fail
  go_loopw [6] (fun i wr => ∃ k : Nat, k ≤ n ∧ i = .int .i64 k ∧ Below w.heap.size w wr ∧ Blk wr w.heap.size #[.int .i64 now, .slice a n cap] 42 ∧ Blk wr (w.heap.size + 1) #[.int .i64 0, .slice none 0 0] 42 ∧ ∃ v, Blk wr (w.heap.size + 1 + 1 + 1) #[.int .i64 c, v] 42 ∧ v.ownBlock ≠ some (w.heap.size + 1 + 1 + 1) ∧ wr.ownsRow (w.heap.size + 1 + 1) 30 2 v (tickL c (l.take k)).length (flat (tickL c (l.take k)))) (fun i _ => n - (intOf i).toNat)
  case atStart => exact ⟨0, by omega, rfl, hb0, B0, R0, _, O0, by simp [Value.ownBlock], own0⟩
  case round =>
    obtain ⟨k, hk, rfl, hbk, Bk, Rk, v, Ok, hne, own⟩ := hrel
    clear hb0 B0 R0 O0 own0
    have c0 := Bk.cell 0 rfl
    have c1 := Bk.cell 1 rfl
    by_cases hlt : k < n
    · have hki : (k : Int) < (n : Int) := by omega
      have hki0 : (0 : Int) ≤ (k : Int) := by omega
      obtain ⟨b, off, rfl, hb, hc⟩ := (HS.out.below hbk).at hlt
      have x0 := hc k hlt 0 (by omega)
      have x1 := hc k hlt 1 (by omega)
      obtain ⟨p, hp⟩ : ∃ p, l.getD k (0, 0) = p := ⟨_, rfl⟩
      simp only [tkG, Nat.add_zero, hp] at x0 x1
      clear hc
      have q := Ok.lt
      have qb : b < wr.heap.size := by omega
      by_cases ht : c - 10 ≤ p.2
      · have ht' : ¬ p.2 < c - 10 := by omega
        have HK := Lib.hid (tick_keep (c := c) (by omega : k < l.length) hp ht)
        have hlen := HL.out k
        have d0 := Ok.cell 0 rfl
        have d1 := Ok.cell 1 rfl
        have Bk1 := (Bk.alloc (Obj.cells #[.int .i64 p.1, .int .i64 p.2] 30)).drew
        have Rk1 := (Rk.alloc (Obj.cells #[.int .i64 p.1, .int .i64 p.2] 30)).drew
        have Ok1 := (Ok.alloc (Obj.cells #[.int .i64 p.1, .int .i64 p.2] 30)).drew
        have hb1 := bdrew (bpush hbk (Obj.cells #[.int .i64 p.1, .int .i64 p.2] 30))
        have own1 := (own.alloc (Obj.cells #[.int .i64 p.1, .int .i64 p.2] 30)).drew
        have N1 := (Blk.new wr #[.int .i64 p.1, .int .i64 p.2] 30).drew
        clear hp
        go_wp2_with fail
        go_region_law ((refine step_append_lies _ (by rfl) _ _ _ (by rfl) (w.heap.size + 1 + 1) 30 i0 _ 2 16 Try.underlying40 HI.out HZ.out HZ1.out HY.out rfl (by omega) v _ _ (by rfl) own1 ⟨wr.heap.size, 0, none⟩ 1 1 [.int .i64 p.1, .int .i64 p.2] (by rfl) (by rfl) (World.news_of_block N1) (by simp [Value.oneCell']) (by omega) (by unfold maxLen; omega) (by omega) (by simp; omega) (wr.heap.size + 1) (by simp) ?_; intro g2 cap2 w2 own3 hgrow hat hg2; have Ok3 := Ok1.grown hgrow hne; have e1 := Ok3.cell 1 rfl; have g1 := Ok3.free 1))
        all_goals
          have hc3 := chg_grown own1 hgrow
          have hb3 := bchg hb1 hc3 (by omega)
          have Rk3 := Rk1.chg hc3 (.inl (by omega))
          have Bk3 := Bk1.chg hc3 (.inl (by omega))
          have hg3 : g2 ≠ w.heap.size + 1 + 1 + 1 := by
            rcases hat with h | h
            · intro e; rw [e] at h; exact hne h
            · omega
          clear d0 d1 own1 hgrow hc3 hb1 Rk1 Ok1 Bk1 N1 e1 g1 x0 x1 c0 c1
          go_wp2_with fail
          go_roundw
          case rel =>
            refine ⟨k + 1, by omega, by go_num, ?_, Bk3.other (by omega) _ _, Rk3.other (by omega) _ _, _, Ok3.set 1 _, ?_, ?_⟩
            · with_reducible exact Below.setCell hb3 (by simp; omega) _
            · simp [Value.ownBlock]; exact hg3
            · rw [HK.out, flat_snoc, List.length_append]
              exact row_other own3 hg3
          case measure => simp [intOf]; omega
      · have ht' : p.2 < c - 10 := by omega
        have HK := Lib.hid (tick_drop (c := c) (by omega : k < l.length) hp ht)
        clear hp ht
        go_wp2_with fail
        go_roundw
        case rel => exact ⟨k + 1, by omega, by go_num, hbk, Bk, Rk, v, Ok, hne, by rw [HK.out]; exact own⟩
        case measure => simp [intOf]; omega
    · obtain rfl : k = n := by omega
      obtain ⟨av, capv, hv⟩ := row_form own
      subst hv
      have e0 := Ok.cell 0 rfl
      have e1 := Ok.cell 1 rfl
      have r0 := Rk.cell 0 rfl
      have r1 := Rk.cell 1 rfl
      have s0 := Rk.free 0
      have s1 := Rk.free 1
      have hlen := HL.out k
      have HO := Lib.hid (ow_of_row own (by omega) (by
        intro i hi j hj
        exact flat_at _ i hi j hj))
      rw [List.take_of_length_le (show l.length ≤ k by omega)] at HO e1
      clear own hlen
      go_wp2_with fail
      refine bodyPost_ret (v := .agg #[.int .i64 c, .slice av (tickL c l).length capv]) ?_ rfl ⟨av, capv, rfl, ?_, ?_⟩
      · simp only [results, Try.results48]
        go_simp
      · repeat (first | with_reducible exact hbk | with_reducible refine Below.setCell ?_ (by simp <;> omega) _)
      · refine Ow.mono (Ow.chg HO.out (lo := w.heap.size) (hi := w.heap.size + 1 + 1) ?_ (Nat.le_refl _)) (by omega)
        repeat (first | with_reducible exact Chg.refl _ _ _ | with_reducible refine Chg.set ?_ (.inl (by simp <;> omega)) _ _)
end Go.Proofs.Ytjlaikmilcgmhaa
