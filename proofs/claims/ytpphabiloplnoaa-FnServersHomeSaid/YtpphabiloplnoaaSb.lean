/- The draw of servers. -/
import Derived.Test.YtpphabiloplnoaaSa
namespace Go.Proofs.Ytpphabiloplnoaa
open Go.RowKit
set_option linter.unusedVariables false
attribute [local go_sem ↓] Go.wp_at_zero Go.wp_at_succ

/-- Servers that lie from B to H, readable. -/
def NsB (w : World) (B : Nat) (a : Option Addr) (n : Nat) (xs : SV) : Prop :=
  xs.length = n ∧ ∃ sl : Nat → Option Addr × Nat, (∃ b cs T, a = some ⟨b, 0, none⟩ ∧ B ≤ b ∧ Blk w b cs T ∧ ∀ i, i < n → cs[i * 2]? = some (.int .i64 (xs.getD i (0, [])).1) ∧ cs[i * 2 + 1]? = some (.slice (sl i).1 (xs.getD i (0, [])).2.length (sl i).2)) ∧
    ∀ i, i < n → (xs.getD i (0, [])).2.length ≤ (sl i).2 ∧ (xs.getD i (0, [])).2.length ≤ 1048576 ∧ Ow 2 w B (sl i).1 (xs.getD i (0, [])).2.length (tkG (xs.getD i (0, [])).2)
theorem NsB.length {w : World} {B n : Nat} {a : Option Addr} {xs : SV} (h : NsB w B a n xs) : xs.length = n := h.1
theorem ow_lo {k n B bk : Nat} {w w' : World} {a : Option Addr} {g : Nat → Nat → Value} (h : Ow k w B a n g) (hl : Lo bk w w') (hb : bk < B) : Ow k w' B a n g := by
  refine ⟨h.1, ?_⟩
  rcases h.2 with h0 | ⟨b, cs, T, e, hB, hk, h⟩
  · exact .inl h0
  · exact .inr ⟨b, cs, T, e, hB, hk.lo hl (by omega), h⟩
theorem NsB.lo {w w' : World} {B n bk : Nat} {a : Option Addr} {xs : SV} (h : NsB w B a n xs) (hl : Lo bk w w') (hb : bk < B) : NsB w' B a n xs := by
  obtain ⟨h0, sl, ⟨b, cs, T, e, hB, hk, hc⟩, hi⟩ := h
  exact ⟨h0, sl, ⟨b, cs, T, e, hB, hk.lo hl (by omega), hc⟩, fun i h => ⟨(hi i h).1, (hi i h).2.1, ow_lo (hi i h).2.2 hl hb⟩⟩
theorem NsB.set {w : World} {B n b j : Nat} {a : Option Addr} {xs : SV} {v : Value} (h : NsB w B a n xs) (hb : b < B) : NsB (w.setCell ⟨b, j, none⟩ v) B a n xs := by
  obtain ⟨h0, sl, ⟨b', cs, T, e, hB, hk, hc⟩, hi⟩ := h
  refine ⟨h0, sl, ⟨b', cs, T, e, hB, hk.other (by omega) _ _, hc⟩, fun i h => ⟨(hi i h).1, (hi i h).2.1, ?_⟩⟩
  obtain ⟨h1, h2⟩ := (hi i h).2.2
  refine ⟨h1, ?_⟩
  rcases h2 with h2 | ⟨b2, cs2, T2, e2, hB2, hk2, hc2⟩
  · exact .inl h2
  · exact .inr ⟨b2, cs2, T2, e2, hB2, hk2.other (by omega) _ _, hc2⟩
theorem NsB.ns {w : World} {B n : Nat} {a : Option Addr} {xs : SV} (h : NsB w B a n xs) (hn : n ≤ 1048576) : Ns 2 tkG w w.heap.size a n xs := by
  obtain ⟨h0, sl, ⟨b, cs, T, e, hB, hk, hc⟩, hi⟩ := h
  refine ⟨h0, sl, ⟨by omega, .inr ⟨b, 0, e, hk.lt, fun i h j hj => ?_⟩⟩, fun i h => ⟨(hi i h).1, (hi i h).2.2.sl⟩⟩
  rw [Nat.zero_add]
  match j, hj with
  | 0, _ => exact hk.cell _ (hc i h).1
  | 1, _ => exact hk.cell _ (hc i h).2
theorem NsB.cell0 {w : World} {B n g : Nat} {xs : SV} (h : NsB w B (some ⟨g, 0, none⟩) n xs) (hn : 0 < n) : w.cell? ⟨g, 0, none⟩ = some (.int .i64 (xs.getD 0 (0, [])).1) := by
  obtain ⟨_, sl, ⟨b, cs, T, e, hB, hk, hc⟩, hi⟩ := h
  obtain ⟨rfl, _⟩ : g = b ∧ True := by simpa using e
  have := hk.cell _ (hc 0 hn).1
  simpa using this
theorem NsB.take {w : World} {B n m : Nat} {a : Option Addr} {xs : SV} (h : NsB w B a n xs) (hm : m ≤ n) : NsB w B a m (xs.take m) := by
  obtain ⟨h0, sl, ⟨b, cs, T, e, hB, hk, hc⟩, hi⟩ := h
  have eg : ∀ i, i < m → (xs.take m).getD i (0, []) = xs.getD i (0, []) := fun i hi => by
    rw [List.getD_eq_getElem?_getD, List.getD_eq_getElem?_getD, List.getElem?_take_of_lt hi]
  refine ⟨by rw [List.length_take]; omega, sl, ⟨b, cs, T, e, hB, hk, fun i h => by rw [eg i h]; exact hc i (by omega)⟩, fun i h => by rw [eg i h]; exact hi i (by omega)⟩
theorem nsb_of {w : World} {base n cap g : Nat} {sl : SR} (h : SvR w base (.slice (some ⟨g, 0, none⟩) n cap) sl) (hl : sl.length = n) (hm : ∀ t ∈ sl, t.2.1.length ≤ 9) : NsB w base (some ⟨g, 0, none⟩) n (srvs sl) := by
  obtain ⟨⟨_, ⟨h0, _⟩ | ⟨g', cap', cur, hv, hg, hc, hnc, _, hs, hx⟩⟩, hin⟩ := h
  · cases h0
  · simp only [Value.slice.injEq, Option.some.injEq, Addr.mk.injEq, and_true] at hv
    obtain ⟨rfl, rfl, rfl⟩ := hv
    refine ⟨by rw [srvs_len, hl], fun i => (sl.getD i (0, [], none, 0)).2.2, ⟨g, cur, _, rfl, hg, hc, fun i hi => ?_⟩, fun i hi => ?_⟩
    · obtain ⟨h1, h2⟩ := srC_at sl i (by omega)
      rw [srvs_at]
      rw [← hx, List.getElem?_take_of_lt (by omega), Array.getElem?_toList] at h1
      rw [← hx, List.getElem?_take_of_lt (by omega), Array.getElem?_toList] at h2
      exact ⟨h1, h2⟩
    · rw [srvs_at]
      have m : sl.getD i (0, [], none, 0) ∈ sl := getD_mem (by omega)
      have hr := hin _ m
      unfold inS at hr
      have hm' : (sl.getD i (0, [], none, 0)).2.1.length ≤ 9 := hm _ m
      exact ⟨row_cap hr, Nat.le_trans hm' (by omega), ow_of_row hr (Nat.le_trans hm' (by omega)) (fun i hi j hj => flat_at _ i hi j hj)⟩

theorem all_snoc {P : (Int × TL × Option Addr × Nat) → Prop} {sl : SR} {t : Int × TL × Option Addr × Nat} (h : ∀ t ∈ sl, P t) (ht : P t) : ∀ u ∈ sl ++ [t], P u := by
  intro u hu
  rcases List.mem_append.1 hu with hu | hu
  · exact h u hu
  · rw [List.mem_singleton.1 hu]; exact ht
theorem rows_lt {w : World} {base k n : Nat} {e : TypeId} {v : Value} {xs : List Value} (h : w.ownsRow base e k v n xs) : ∀ g, v.ownBlock = some g → base ≤ g ∧ g < w.heap.size := by
  intro g hg
  obtain ⟨a, cap, rfl⟩ := row_form h
  exact h.lt _ hg
theorem RS.grown {a w w' : World} {bk p base k n : Nat} {e : TypeId} {v : Value} {xs : List Value} (h : RS a bk p w) (own : w.ownsRow base e k v n xs) (hg : w.grownBy w' v.ownBlock) (hb : bk < base) (ha : a.heap.size ≤ base) (hz : base ≤ w.heap.size) : RS a bk p w' := by
  have hc := chg_grown own hg
  exact ⟨h.1.below (hc.below (Nat.le_refl _) hz) hb, ⟨hc.os.trans h.2.os, hc.tape.trans h.2.tape, hc.output.trans h.2.output, Nat.le_trans h.2.size hc.size, fun i hi hne => (hc.block i (Nat.lt_of_lt_of_le hi h.2.size) (by omega)).trans (h.2.block i hi hne)⟩⟩

set_option maxHeartbeats 8000000 in
theorem draw_srv (w : World) (a : Option Addr) (len cap : Nat) (zs : List Int) (h : IsRow .u8 w a len cap zs) :
    Calls Try.prog 13 #[.slice a len cap] w fun e w' => ∃ (ss : SV) (sa : Option Addr) (c : Nat) (A : Int) (t : Int × Int), e = .returned (.tuple #[.slice sa ss.length c, .int .i64 A, .agg #[.int .i64 t.1, .int .i64 t.2]]) ∧ ss.length ≤ 4 ∧ Below w.heap.size w w' ∧ Ns 2 tkG w' w'.heap.size sa ss.length ss := by
  obtain ⟨j0, hj0, gz0, gs0, gy0⟩ := info_parts infoRg
  have GI := Lib.hid hj0
  have GZ := Lib.hid gz0
  have GZ1 := Lib.hid gs0
  have GY := Lib.hid gy0
  clear hj0 gz0 gs0 gy0
  have h' : IsRow .u8 (w.alloc (Obj.cells #[.int .i64 0, .int .i64 0] 25)) a len cap zs := isrow_alloc h _
  have HO := Lib.hid (open_s _ a len cap zs h')
  clear h h'
  have R0 := Blk.new w #[.int .i64 0, .int .i64 0] 25
  go_enter Try.func13, Try.ntmps13
  go_wp2_with fail
  refine HO.out.mono ?_
  rintro e1 w1 ⟨bk, rfl, hbk, hS1⟩
  clear HO
  simp at hbk
  have R1 := R0.lo (rs_lo hS1) (by omega)
  have hbB : bk < w1.heap.size := hS1.lt
  have hbR : w.heap.size ≠ bk := by omega
  have hS2 := hS1.alloc (Obj.cells #[] 34)
  have R2 := R1.alloc (Obj.cells #[] 34)
  have own2 := own_srv (base := w1.heap.size) (Blk.new w1 #[] 34) (Nat.le_refl _)
  clear R0 hS1 R1
  go_wp2_with fail
  go_loopw [6, 7] (fun v i wr => ∃ (k q : Nat) (sl : SR), k ≤ 4 ∧ i = .int .i64 k ∧ q ≤ 100 * k ∧ sl.length = k ∧ (∀ t ∈ sl, t.2.1.length ≤ 9) ∧ (∀ t ∈ sl, -1000 ≤ t.1 ∧ t.1 ≤ 2000) ∧ w1.heap.size ≤ wr.heap.size ∧ RS (w.alloc (Obj.cells #[.int .i64 0, .int .i64 0] 25)) bk q wr ∧ Blk wr w.heap.size #[.int .i64 0, .int .i64 0] 25 ∧ SvR wr w1.heap.size v sl) (fun _ i _ => 4 - (intOf i).toNat)
  case atStart => exact ⟨0, 0, [], by omega, rfl, by omega, rfl, fun t m => (by cases m), fun t m => (by cases m), by simp, hS2, R2, own2⟩
  case round =>
    clear hS2 R2 own2
    obtain ⟨k, q, sl, hk, rfl, hq, hlk, hm9, hmn, hz, hSr, Rr, ownr⟩ := hrel
    have HM9 := Lib.hid hm9
    have HMN := Lib.hid hmn
    clear hm9 hmn
    go_wp2_with fail
    refine (pick_s hSr (by omega) (by omega)).mono ?_
    rintro e w2 ⟨r, rfl, hr, hS2, hl2⟩
    have R2 := Rr.lo hl2 hbR
    have own2 := ownr.lo hl2 hbB
    have z2 := hl2.size
    clear hSr Rr ownr hl2
    by_cases hlt : k < 1 + r
    · have hki : (k : Int) < 1 + (r : Int) := by omega
      go_wp2_with fail
      refine (regd_s hS2 (by omega)).mono ?_
      rintro e w3 ⟨q3, now, l, sa, c, rfl, hq3, hl9, hlc, ⟨hn1, hn2⟩, hS3, hl3, rowl⟩
      have R3 := R2.lo hl3 hbR
      have own3 := own2.lo hl3 hbB
      have z3 := hl3.size
      have X4 := Blk.new w3 #[.int .i64 now, .slice sa l.length c] 34
      have hS5 := (hS3.alloc (Obj.cells #[.int .i64 now, .slice sa l.length c] 34)).alloc (Obj.cells #[.int .i64 now, .slice sa l.length c] 34)
      have R5 := (R3.alloc (Obj.cells #[.int .i64 now, .slice sa l.length c] 34)).alloc (Obj.cells #[.int .i64 now, .slice sa l.length c] 34)
      have own5 := (own3.alloc (Obj.cells #[.int .i64 now, .slice sa l.length c] 34)).alloc (Obj.cells #[.int .i64 now, .slice sa l.length c] 34)
      have rowl5 := row_mono ((rowl.alloc (Obj.cells #[.int .i64 now, .slice sa l.length c] 34)).alloc (Obj.cells #[.int .i64 now, .slice sa l.length c] 34)) (B' := w1.heap.size) (by omega)
      have N5 := Blk.new (w3.alloc (Obj.cells #[.int .i64 now, .slice sa l.length c] 34)) #[.int .i64 now, .slice sa l.length c] 34
      simp only [World.size_alloc] at N5
      have row5 := own5.1
      have HIN5 := Lib.hid own5.2
      clear hS2 R2 own2 hl3 hS3 R3 own3 rowl X4 own5
      go_wp2_with (at_builtin; refine wpList_append_lies _ rfl _ _ _ rfl w1.heap.size _ j0 _ 2 32 Try.underlying23 GI.out GZ.out GZ1.out GY.out rfl (by omega) _ _ _ rfl row5 ⟨w3.heap.size + 1, 0, none⟩ 1 1 [.int .i64 now, .slice sa l.length c] rfl rfl (World.news_of_block N5) (by simp [Value.oneCell']) (by omega) (by unfold maxLen; omega) (by omega) (by simp; omega) (w3.heap.size + 1 + 1) (by simp) ?_; intro g2 cap2 w9 row9 hgrow hat hg2)
      have hc9 := chg_grown row5 hgrow
      have hS9 := hS5.grown row5 hgrow hbB (by have := hS5.2.size; simp at hbk ⊢; omega) (by simp; omega)
      have R9 := R5.grown hgrow (fun h => by have := rows_lt row5 _ h; omega)
      have hin9 : ∀ t ∈ sl, w9.ownsRow w1.heap.size 25 2 (inS t) t.2.1.length (flat t.2.1) := fun t m => row_grown (HIN5.out t m) hgrow (rows_ne (HIN5.out t m) row5 (by decide))
      have rowl9 := row_grown rowl5 hgrow (rows_ne rowl5 row5 (by decide))
      have own9 := SvR.snoc (t := (now, l, sa, c)) row9 hin9 rowl9
      go_roundw
      case rel => exact ⟨k + 1, q3, sl ++ [(now, l, sa, c)], by omega, by go_num, by omega, by simp; omega, all_snoc (P := fun t => t.2.1.length ≤ 9) HM9.out hl9, all_snoc (P := fun t => -1000 ≤ t.1 ∧ t.1 ≤ 2000) HMN.out ⟨hn1, hn2⟩, by have := hc9.size; simp at this; omega, hS9, R9, by rw [← hlk]; exact own9⟩
      case measure => simp [intOf]; omega
    · have hki : ¬ ((k : Int) < 1 + (r : Int)) := by omega
      obtain ⟨av, cp, rfl⟩ := row_form own2.1
      have hb0 : ∃ g, av = some ⟨g, 0, none⟩ := by
        rcases own2.1.2 with ⟨h0, h1⟩ | ⟨g, cap, cur, h0, _⟩
        · simp only [Value.slice.injEq] at h0; omega
        · simp only [Value.slice.injEq] at h0; exact ⟨g, h0.1⟩
      obtain ⟨g, rfl⟩ := hb0
      have hg := rows_lt own2.1 g rfl
      have hcp := row_cap own2.1
      have nb2 : NsB w2 w1.heap.size (some ⟨g, 0, none⟩) k (srvs sl) := by rw [← hlk]; exact nsb_of own2 (by omega) HM9.out
      go_wp2_with fail
      refine (pick_s hS2 (by omega) (by omega)).mono ?_
      rintro e w3 ⟨r12, rfl, hr12, hS3, hl3⟩
      have R3 := R2.lo hl3 hbR
      have nb3 := nb2.lo hl3 hbB
      clear hS2 R2 own2 nb2
      have hsl := srvs_len sl
      have hk0 : (0 : Int) < (k : Int) := by omega
      have hn3 : -1000 ≤ ((srvs sl).getD 0 (0, [])).1 ∧ ((srvs sl).getD 0 (0, [])).1 ≤ 2000 := by
        rw [srvs_at]; exact HMN.out _ (getD_mem (by omega))
      obtain ⟨nw, hnw⟩ : ∃ x, ((srvs sl).getD 0 (0, [])).1 = x := ⟨_, rfl⟩
      rw [hnw] at hn3
      obtain ⟨hn4, hn5⟩ := hn3
      by_cases h12 : r12 = 0
      · subst h12
        go_wp2_with fail
        refine (pick_s hS3 (by omega) (by omega)).mono ?_
        rintro e w4 ⟨r4, rfl, hr4, hS4, hl4⟩
        have R4 := R3.lo hl4 hbR
        have nb4 := (nb3.lo hl4 hbB).take (m := r4) (by omega)
        have hrc : r4 ≤ cp := by omega
        clear hS3 R3 nb3
        by_cases h4 : r4 = 0
        · subst h4
          go_wp2_with fail
          refine (pick_s hS4 (by omega) (by omega)).mono ?_
          rintro e w5 ⟨r5, rfl, hr5, hS5, hl5⟩
          have R5 := R4.lo hl5 hbR
          have nb5 := nb4.lo hl5 hbB
          clear hS4 R4 nb4
          go_wp2_with fail
          refine (pick_s hS5 (by omega) (by omega)).mono ?_
          rintro e w6 ⟨r6, rfl, hr6, hS6, hl6⟩
          have R6 := R5.lo hl6 hbR
          have nb6 := nb5.lo hl6 hbB
          clear hS5 R5 nb5 hl5
          obtain ⟨m, hm, hm0, hm1⟩ : ∃ m : Nat, Int.tdiv (r6 : Int) 11 = (m : Int) ∧ 0 ≤ m ∧ m ≤ 1 := by
            rw [Int.tdiv_eq_ediv_of_nonneg (by omega)]; exact ⟨r6 / 11, by simp, by omega, by omega⟩
          have r110 : ¬ (11 : Int) = 0 := by omega
          go_wp2_with fail
          refine (tkd_s 12 hS6 (by omega) (by omega) (by omega)).mono ?_
          rintro e w7 ⟨t, rfl, hS7, hl7⟩
          have R7 := R6.lo hl7 hbR
          have nb7 := nb6.lo hl7 hbB
          have hB7 := (rs_lo hS7)
          clear hS6 R6 nb6 hl6
          have z0 := R7.cell 0 rfl
          have z1 := R7.cell 1 rfl
          have g0 := R7.free 0
          have g1 := R7.free 1
          have nx : (((srvs sl).take 0)).length = 0 := by have := nb7.length; omega
          go_wp2_with fail
          refine bodyPost_ret (v := .tuple #[.slice (some ⟨g, 0, none⟩) (0 : Nat) cp, .int .i64 ((r5 : Int) - (m : Int)), .agg #[.int .i64 t.1, .int .i64 t.2]]) ?_ rfl ⟨((srvs sl).take 0), some ⟨g, 0, none⟩, cp, (r5 : Int) - (m : Int), t, by rw [nx], by omega, ?_, ?_⟩
          · simp only [results, Try.results13]
            go_simp
          · have hB := (((Lo.refl bk w).alloc (Obj.cells #[.int .i64 0, .int .i64 0] 25)).trans hB7).below (by omega)
            repeat (first | with_reducible exact hB | with_reducible refine Below.drew ?_ | with_reducible refine Below.setCell ?_ (by simp <;> omega) _)
          · rw [nx]
            refine NsB.ns (B := w1.heap.size) ?_ (by omega)
            repeat (first | with_reducible exact nb7 | with_reducible refine NsB.set ?_ (by omega))
        · obtain rfl : r4 = 1 := by omega
          have y0 : w4.cell? ⟨g, 0, none⟩ = some (.int .i64 nw) := by
            rw [← hnw]
            have := nb4.cell0 (by omega)
            rwa [List.getD_eq_getElem?_getD, List.getElem?_take_of_lt (by omega), ← List.getD_eq_getElem?_getD] at this
          have h01 : (0 : Int) < ((1 : Nat) : Int) := by omega
          go_wp2_with fail
          refine (pick_s hS4 (by omega) (by omega)).mono ?_
          rintro e w5 ⟨r5, rfl, hr5, hS5, hl5⟩
          have R5 := R4.lo hl5 hbR
          have nb5 := nb4.lo hl5 hbB
          clear hS4 R4 nb4
          go_wp2_with fail
          refine (pick_s hS5 (by omega) (by omega)).mono ?_
          rintro e w6 ⟨r6, rfl, hr6, hS6, hl6⟩
          have R6 := R5.lo hl6 hbR
          have nb6 := nb5.lo hl6 hbB
          clear hS5 R5 nb5 hl5
          obtain ⟨m, hm, hm0, hm1⟩ : ∃ m : Nat, Int.tdiv (r6 : Int) 11 = (m : Int) ∧ 0 ≤ m ∧ m ≤ 1 := by
            rw [Int.tdiv_eq_ediv_of_nonneg (by omega)]; exact ⟨r6 / 11, by simp, by omega, by omega⟩
          have r110 : ¬ (11 : Int) = 0 := by omega
          go_wp2_with fail
          refine (tkd_s nw hS6 (by omega) (by omega) (by omega)).mono ?_
          rintro e w7 ⟨t, rfl, hS7, hl7⟩
          have R7 := R6.lo hl7 hbR
          have nb7 := nb6.lo hl7 hbB
          have hB7 := (rs_lo hS7)
          clear hS6 R6 nb6 hl6
          have z0 := R7.cell 0 rfl
          have z1 := R7.cell 1 rfl
          have g0 := R7.free 0
          have g1 := R7.free 1
          have nx : (((srvs sl).take 1)).length = 1 := by have := nb7.length; omega
          go_wp2_with fail
          refine bodyPost_ret (v := .tuple #[.slice (some ⟨g, 0, none⟩) (1 : Nat) cp, .int .i64 ((r5 : Int) - (m : Int)), .agg #[.int .i64 t.1, .int .i64 t.2]]) ?_ rfl ⟨((srvs sl).take 1), some ⟨g, 0, none⟩, cp, (r5 : Int) - (m : Int), t, by rw [nx], by omega, ?_, ?_⟩
          · simp only [results, Try.results13]
            go_simp
          · have hB := (((Lo.refl bk w).alloc (Obj.cells #[.int .i64 0, .int .i64 0] 25)).trans hB7).below (by omega)
            repeat (first | with_reducible exact hB | with_reducible refine Below.drew ?_ | with_reducible refine Below.setCell ?_ (by simp <;> omega) _)
          · rw [nx]
            refine NsB.ns (B := w1.heap.size) ?_ (by omega)
            repeat (first | with_reducible exact nb7 | with_reducible refine NsB.set ?_ (by omega))
      · have h12' : ((r12 : Int) == 0) = false := by simp [h12]
        have y0 : w3.cell? ⟨g, 0, none⟩ = some (.int .i64 nw) := by rw [← hnw]; exact nb3.cell0 (by omega)
        go_wp2_with fail
        refine (pick_s hS3 (by omega) (by omega)).mono ?_
        rintro e w5 ⟨r5, rfl, hr5, hS5, hl5⟩
        have R5 := R3.lo hl5 hbR
        have nb5 := nb3.lo hl5 hbB
        clear hS3 R3 nb3
        go_wp2_with fail
        refine (pick_s hS5 (by omega) (by omega)).mono ?_
        rintro e w6 ⟨r6, rfl, hr6, hS6, hl6⟩
        have R6 := R5.lo hl6 hbR
        have nb6 := nb5.lo hl6 hbB
        clear hS5 R5 nb5 hl5
        obtain ⟨m, hm, hm0, hm1⟩ : ∃ m : Nat, Int.tdiv (r6 : Int) 11 = (m : Int) ∧ 0 ≤ m ∧ m ≤ 1 := by
          rw [Int.tdiv_eq_ediv_of_nonneg (by omega)]; exact ⟨r6 / 11, by simp, by omega, by omega⟩
        have r110 : ¬ (11 : Int) = 0 := by omega
        go_wp2_with fail
        refine (tkd_s nw hS6 (by omega) (by omega) (by omega)).mono ?_
        rintro e w7 ⟨t, rfl, hS7, hl7⟩
        have R7 := R6.lo hl7 hbR
        have nb7 := nb6.lo hl7 hbB
        have hB7 := (rs_lo hS7)
        clear hS6 R6 nb6 hl6
        have z0 := R7.cell 0 rfl
        have z1 := R7.cell 1 rfl
        have g0 := R7.free 0
        have g1 := R7.free 1
        have nx : ((srvs sl)).length = k := by have := nb7.length; omega
        go_wp2_with fail
        refine bodyPost_ret (v := .tuple #[.slice (some ⟨g, 0, none⟩) (k : Nat) cp, .int .i64 ((r5 : Int) - (m : Int)), .agg #[.int .i64 t.1, .int .i64 t.2]]) ?_ rfl ⟨(srvs sl), some ⟨g, 0, none⟩, cp, (r5 : Int) - (m : Int), t, by rw [nx], by omega, ?_, ?_⟩
        · simp only [results, Try.results13]
          go_simp
        · have hB := (((Lo.refl bk w).alloc (Obj.cells #[.int .i64 0, .int .i64 0] 25)).trans hB7).below (by omega)
          repeat (first | with_reducible exact hB | with_reducible refine Below.drew ?_ | with_reducible refine Below.setCell ?_ (by simp <;> omega) _)
        · rw [nx]
          refine NsB.ns (B := w1.heap.size) ?_ (by omega)
          repeat (first | with_reducible exact nb7 | with_reducible refine NsB.set ?_ (by omega))
end Go.Proofs.Ytpphabiloplnoaa
