/- A ticket presented to servers: the program's way. -/
import Derived.Test.YtjlaikmilcgmhaaSc
import Derived.Test.YtjlaikmilcgmhaaGp
namespace Go.Proofs.Ytjlaikmilcgmhaa
open Go.RowKit
set_option linter.unusedVariables false
attribute [local go_sem ↓] Go.wp_at_zero Go.wp_at_succ

theorem sres_no {ss : SV} {A : Int} {t : Int × Int} (h : sTryOk ss A t = false) : sRes ss A t = [] ∧ sV ss A t = false := by
  unfold sRes sV; rw [h]; exact ⟨rfl, rfl⟩
theorem sres_away {ss : SV} {A : Int} {t : Int × Int} (h : sTryOk ss A t = true) (hne : A ≠ t.1 % (ss.length : Int)) : sRes ss A t = ss ∧ sV ss A t = false := by
  have : sAcc ss A t = false := by unfold sAcc; rw [decide_eq_false hne]; rfl
  unfold sRes sV sPut; rw [h, this]; exact ⟨rfl, rfl⟩
theorem set_same {α : Type} {l : List α} {d : α} {i : Nat} (hi : i < l.length) : l.set i (l.getD i d) = l := by
  rw [List.getD_eq_getElem?_getD, List.getElem?_eq_getElem hi, Option.getD_some, List.set_getElem_self]
theorem sres_home {ss : SV} {i : Nat} {t : Int × Int} (h : sTryOk ss i t = true) (he : (i : Int) = t.1 % (ss.length : Int)) :
    sRes ss i t = ss.set i (tryN (ss.getD i (0, [])).1 (ss.getD i (0, [])).2 t, tryS (ss.getD i (0, [])).1 (ss.getD i (0, [])).2 t) ∧ sV ss i t = tryV (ss.getD i (0, [])).1 (ss.getD i (0, [])).2 t := by
  obtain ⟨h1, h2, h3, h4⟩ := stry_t h
  have hi : i < ss.length := by omega
  have hr := (srv_t h1).2 i hi
  have hk : tryOk (ss.getD i (0, [])).1 (ss.getD i (0, [])).2 t = true := by unfold tryOk; rw [hr, h2]; rfl
  have ea : sAcc ss i t = accT (ss.getD i (0, [])).1 (ss.getD i (0, [])).2 t := by
    unfold sAcc; rw [decide_eq_true he, Int.toNat_natCast]; rfl
  unfold sRes sV sPut
  rw [h, ea, if_pos rfl, Int.toNat_natCast]
  cases g : accT (ss.getD i (0, [])).1 (ss.getD i (0, [])).2 t
  · obtain ⟨e1, e2, e3⟩ := try_rej hk g
    rw [e1, e2, e3, if_neg (by simp)]
    exact ⟨(set_same hi).symm, rfl⟩
  · obtain ⟨e1, e2, e3⟩ := try_acc hk g
    rw [e1, e2, e3, if_pos rfl]
    exact ⟨rfl, rfl⟩
theorem snil {w : World} {B : Nat} {a : Option Addr} : Nr w B a 0 [] := Nr.nil w B a

/-- What presenting a ticket hands back, and what became of the world. -/
def STd (w : World) (R : SV) (V : Bool) (e : Ending) (w' : World) : Prop :=
  ∃ (a : Option Addr) (c : Nat), e = .returned (.tuple #[.slice a R.length c, .bool V]) ∧ Below w.heap.size w w' ∧ Nr w' w'.heap.size a R.length R
theorem SvR.blk {w : World} {base g n cap : Nat} {sl : SR} (h : SvR w base (.slice (some ⟨g, 0, none⟩) n cap) sl) (hl : sl.length = n) : base ≤ g ∧ ∃ cs, Blk w g cs 42 ∧ n * 2 ≤ cs.size ∧ ∀ i, i < n → cs[i * 2]? = some (.int .i64 (sl.getD i (0, [], none, 0)).1) ∧ cs[i * 2 + 1]? = some (inS (sl.getD i (0, [], none, 0))) := by
  obtain ⟨⟨_, ⟨h0, _⟩ | ⟨g', cap', cur, hv, hg, hc, hnc, _, hs, hx⟩⟩, hin⟩ := h
  · cases h0
  · simp only [Value.slice.injEq, Option.some.injEq, Addr.mk.injEq, and_true] at hv
    obtain ⟨rfl, rfl, rfl⟩ := hv
    refine ⟨hg, cur, hc, ?_, fun i hi => ?_⟩
    · have := congrArg List.length hx
      simp [srC] at this
      omega
    · obtain ⟨h1, h2⟩ := srC_at sl i (by omega)
      rw [← hx, List.getElem?_take_of_lt (by omega), Array.getElem?_toList] at h1
      rw [← hx, List.getElem?_take_of_lt (by omega), Array.getElem?_toList] at h2
      exact ⟨h1, h2⟩
theorem SvR.row {w : World} {base : Nat} {v : Value} {sl : SR} (h : SvR w base v sl) : w.ownsRow base 42 2 v sl.length (srC sl) := h.1
theorem SvR.ins {w : World} {base : Nat} {v : Value} {sl : SR} (h : SvR w base v sl) : ∀ t ∈ sl, w.ownsRow base 30 2 (inS t) t.2.1.length (flat t.2.1) := h.2
theorem SvR.inner {w : World} {base n cap : Nat} {a : Option Addr} {sl : SR} (h : SvR w base (.slice a n cap) sl) (hl : sl.length = n) (hm : ∀ t ∈ sl, t.2.1.length ≤ 8) {i : Nat} (hi : i < n) : Sl 2 w w.heap.size (sl.getD i (0, [], none, 0)).2.2.1 (sl.getD i (0, [], none, 0)).2.1.length (tkG (sl.getD i (0, [], none, 0)).2.1) := by
  have m : sl.getD i (0, [], none, 0) ∈ sl := getD_mem (by omega)
  have h8 : (sl.getD i (0, [], none, 0)).2.1.length ≤ 8 := hm _ m
  exact row_sl (h.2 _ m) rfl (by omega)
theorem SvR.nr {w : World} {base n cap : Nat} {a : Option Addr} {sl : SR} (h : SvR w base (.slice a n cap) sl) (hl : sl.length = n) (hn : n ≤ 4) (hm : ∀ t ∈ sl, t.2.1.length ≤ 8) : Nr w w.heap.size a n (srvs sl) := by
  have k := (SvR.ow h hl (by omega) (fun t m => Nat.le_trans (hm t m) (by omega))).ns.nr
  rwa [hl] at k
theorem ow_set {k n B b j : Nat} {w : World} {a : Option Addr} {g : Nat → Nat → Value} {u : Value} (h : Ow k w B a n g) (hb : b < B) : Ow k (w.setCell ⟨b, j, none⟩ u) B a n g := by
  refine ⟨h.1, ?_⟩
  rcases h.2 with h0 | ⟨b2, cs2, T2, e2, hB2, hk2, hc2⟩
  · exact .inl h0
  · exact .inr ⟨b2, cs2, T2, e2, hB2, hk2.other (by omega) _ _, hc2⟩
theorem put_nr {w : World} {base g n cap i B' c' : Nat} {sl : SR} {N : Int} {L : TL} {a' : Option Addr} (h : SvR w base (.slice (some ⟨g, 0, none⟩) n cap) sl) (hl : sl.length = n) (hn : n ≤ 4) (hm : ∀ t ∈ sl, t.2.1.length ≤ 8) (hi : i < n) (hO : Ow 2 w B' a' L.length (tkG L)) (hB : g < B') :
    Nr ((w.setCell ⟨g, i * 2, none⟩ (.int .i64 N)).setCell ⟨g, i * 2 + 1, none⟩ (.slice a' L.length c')) ((w.setCell ⟨g, i * 2, none⟩ (.int .i64 N)).setCell ⟨g, i * 2 + 1, none⟩ (.slice a' L.length c')).heap.size (some ⟨g, 0, none⟩) n ((srvs sl).set i (N, L)) := by
  obtain ⟨hg, cs, hc, hsz, hat⟩ := h.blk hl
  have K := (hc.set (i * 2) (.int .i64 N)).set (i * 2 + 1) (.slice a' L.length c')
  refine ⟨by rw [List.length_set, srvs_len, hl], fun j => if j = i then (a', c') else (sl.getD j (0, [], none, 0)).2.2, ⟨by omega, .inr ⟨g, 0, rfl, K.lt, fun j hj m hm' => ?_⟩⟩, fun j hj => ?_⟩
  · refine K.cell _ ?_
    rw [Nat.zero_add]
    obtain ⟨h1, h2⟩ := hat j hj
    unfold nsG
    rw [getD_set (by rw [srvs_len]; omega), srvs_at]
    by_cases e : j = i
    · subst e
      simp only [if_pos]
      match m, hm' with
      | 0, _ => rw [Array.getElem?_setIfInBounds, if_neg (by omega), Array.getElem?_setIfInBounds, if_pos (by omega), if_pos (by omega)]; rfl
      | 1, _ => rw [Array.getElem?_setIfInBounds, if_pos (by omega), if_pos (by rw [Array.size_setIfInBounds]; omega)]; rfl
    · simp only [if_neg e]
      match m, hm' with
      | 0, _ => rw [Array.getElem?_setIfInBounds, if_neg (by omega), Array.getElem?_setIfInBounds, if_neg (by omega)]; exact h1
      | 1, _ => rw [Array.getElem?_setIfInBounds, if_neg (by omega), Array.getElem?_setIfInBounds, if_neg (by omega)]; exact h2
  · rw [getD_set (by rw [srvs_len]; omega), srvs_at]
    by_cases e : j = i
    · simp only [if_pos e]
      exact (ow_set (ow_set hO hB) hB).sl
    · simp only [if_neg e]
      have m : sl.getD j (0, [], none, 0) ∈ sl := getD_mem (by omega)
      have h8 : (sl.getD j (0, [], none, 0)).2.1.length ≤ 8 := hm _ m
      have hr := h.2 _ m
      unfold inS at hr
      have hne := row_ne hr hc (by decide)
      exact row_sl (row_sets (row_sets hr hne) hne) rfl (by omega)
theorem rtry_u (now : Int) (t : Int × Int) (a : Option Addr) (n cap : Nat) (l : List (Int × Int)) (w : World) (hl : l.length = n) (S : Sl 2 w w.heap.size a n (tkG l)) :
    Calls Try.prog 28 #[.agg #[.int .i64 now, .slice a n cap], .agg #[.int .i64 t.1, .int .i64 t.2]] w fun e w' =>
      ∃ (a' : Option Addr) (c' : Nat), e = .returned (.tuple #[.agg #[.int .i64 (tryN now l t), .slice a' (tryS now l t).length c'], .bool (tryV now l t)]) ∧ Below w.heap.size w w' ∧ Ow 2 w' w.heap.size a' (tryS now l t).length (tkG (tryS now l t)) :=
  rtry_impl now t a n cap l w hl S
set_option maxHeartbeats 16000000 in
theorem stry_impl (A : Int) (t : Int × Int) (a : Option Addr) (n cap : Nat) (ss : SV) (w : World) (HB : Nr w w.heap.size a n ss) :
    Calls Try.prog 12 #[.slice a n cap, .int .i64 A, .agg #[.int .i64 t.1, .int .i64 t.2]] w (STd w (sRes ss A t) (sV ss A t)) := by
  have hn := HB.len
  have hl := HB.length
  have hb0 := bpush (Below.refl w.heap.size w) (Obj.cells #[.int .i64 t.1, .int .i64 t.2] 30)
  have T0 := Blk.new w #[.int .i64 t.1, .int .i64 t.2] 30
  by_cases hh : inB (n : Int) 1 4 = true ∧ tkOk t.1 t.2 = true
  · have E : homeF n t.1 t.2 = t.1 % (n : Int) := by unfold homeF; rw [if_pos hh]
    obtain ⟨g1, g2⟩ := hh
    have hn14 : 1 ≤ (n : Int) ∧ (n : Int) ≤ 4 := by simpa [inB] using g1
    obtain ⟨hn1, hn4⟩ := hn14
    obtain ⟨H, hH⟩ : ∃ x, t.1 % (n : Int) = x := ⟨_, rfl⟩
    have hH0 : 0 ≤ H := by rw [← hH]; exact Int.emod_nonneg _ (by omega)
    have hH1 : H < n := by rw [← hH]; exact Int.emod_lt_of_pos _ (by omega)
    have hHn : ¬ H < 0 := by omega
    rw [hH] at E
    cases b2 : inB A 0 ((n : Int) - 1)
    · have hno : sTryOk ss A t = false := by unfold sTryOk; rw [hl, b2, Bool.and_false]
      obtain ⟨E1, E2⟩ := sres_no hno
      rw [E1, E2]
      clear HB
      go_enter Try.func12, Try.ntmps12
      have t0 := T0.cell 0 rfl
      have t1 := T0.cell 1 rfl
      go_wp2_with fail
      refine (home_impl n t.1 t.2 _).mono ?_
      rintro e w1 ⟨rfl, hb1⟩
      rw [E]
      have hB1 := bstep hb0 hb1
      clear T0 t0 t1
      go_wp2_with (go_at_call 35; refine (within_c _ _ _ _).mono ?_; rintro e w' ⟨rfl, rfl⟩; rw [b2])
      refine bodyPost_ret (v := .tuple #[.slice none 0 0, .bool false]) ?_ rfl ⟨none, 0, rfl, hB1, snil⟩
      simp only [results, Try.results12]
      go_simp
    · have hA := b2
      have hA' : 0 ≤ A ∧ A ≤ (n : Int) - 1 := by simpa [inB] using hA
      obtain ⟨hA0, hA1⟩ := hA'
      obtain ⟨i, rfl⟩ := Int.eq_ofNat_of_zero_le hA0
      obtain ⟨R, hR⟩ : ∃ x, sRes ss i t = x := ⟨_, rfl⟩
      obtain ⟨V, hV⟩ : ∃ x, sV ss i t = x := ⟨_, rfl⟩
      rw [hR, hV]
      have HR := Lib.hid hR
      have HV := Lib.hid hV
      have HH := Lib.hid hH
      have HN := Lib.hid HB
      have G2 := Lib.hid g2
      clear hR hV hH HB hA g2
      obtain ⟨j0, hj0, gz0, gs0, gy0⟩ := info_parts infoRg
      have GI := Lib.hid hj0
      have GZ := Lib.hid gz0
      have GZ1 := Lib.hid gs0
      have GY := Lib.hid gy0
      clear hj0 gz0 gs0 gy0
      go_enter Try.func12, Try.ntmps12
      have t0 := T0.cell 0 rfl
      have t1 := T0.cell 1 rfl
      go_wp2_with fail
      refine (home_impl n t.1 t.2 _).mono ?_
      rintro e w1 ⟨rfl, hb1⟩
      rw [E]
      have hB1 := bstep hb0 hb1
      have T1 := T0.below hb1
      have hz1 : w.heap.size < w1.heap.size := by have := hb1.size; simp at this; omega
      have own0 := nil_srv w1 w1.heap.size
      clear T0 t0 t1 E hb0 hb1
      go_wp2_with (go_at_call 35; refine (within_c _ _ _ _).mono ?_; rintro e w' ⟨rfl, rfl⟩; rw [b2])
      go_loopw [9, 30] (fun v j wr => ∃ (k : Nat) (sl : SR), k ≤ n ∧ j = .int .i64 k ∧ sl.length = k ∧ srvs sl = ss.take k ∧ (∀ j, j < k → regOk (ss.getD j (0, [])).1 (ss.getD j (0, [])).2 = true) ∧ (∀ t ∈ sl, t.2.1.length ≤ 8) ∧ w1.heap.size ≤ wr.heap.size ∧ Below w.heap.size w wr ∧ Blk wr w.heap.size #[.int .i64 t.1, .int .i64 t.2] 30 ∧ SvR wr w1.heap.size v sl) (fun _ j _ => n - (intOf j).toNat)
      case atStart => exact ⟨0, [], by omega, rfl, rfl, rfl, (fun j hj => by omega), (fun t m => by cases m), by omega, hB1, T1, own0⟩
      case round =>
        clear hB1 T1 own0
        obtain ⟨k, sl, hk, rfl, hlk, hsv, hall, hm8, hz, hbr, Tr, ownr⟩ := hrel
        have HSV := Lib.hid hsv
        have HAL := Lib.hid hall
        have HM8 := Lib.hid hm8
        clear hsv hall hm8
        by_cases hlt : k < n
        · have hki : (k : Int) < (n : Int) := by omega
          obtain ⟨b, off, a2, c2, rfl, hB, x0, x1, hs⟩ := (HN.out.below hbr).at hlt
          obtain ⟨bx, hbx⟩ : ∃ p, ss.getD k (0, []) = p := ⟨_, rfl⟩
          rw [hbx] at x0 x1 hs
          have hs1 := sl_push (hs.mono hbr.size) (Obj.cells #[.int .i64 bx.1, .slice a2 bx.2.length c2] 42)
          have O1 := Blk.new wr #[.int .i64 bx.1, .slice a2 bx.2.length c2] 42
          have T2 := Tr.alloc (Obj.cells #[.int .i64 bx.1, .slice a2 bx.2.length c2] 42)
          have own2 := ownr.alloc (Obj.cells #[.int .i64 bx.1, .slice a2 bx.2.length c2] 42)
          have hb2 := bpush hbr (Obj.cells #[.int .i64 bx.1, .slice a2 bx.2.length c2] 42)
          have HBX := Lib.hid hbx
          have o0 := O1.cell 0 rfl
          have o1 := O1.cell 1 rfl
          clear hbx hs Tr ownr hbr
          go_wp2_with fail
          refine (rvalid_impl bx.1 a2 bx.2.length c2 bx.2 _ rfl hs1).mono ?_
          rintro e w3 ⟨rfl, hb3⟩
          have O3 := O1.below hb3
          have T3 := T2.below hb3
          have own3 := own2.below hb3
          have hB3 := bstep hb2 hb3
          have hs3 := sl_step hs1 hb3
          clear o0 o1 x0 x1 O1 T2 own2 hs1 hb2
          cases hv : regOk bx.1 bx.2
          · have hno : sTryOk ss i t = false := by
              unfold sTryOk
              rw [srv_no (i := k) (by omega) (by rw [HBX.out]; exact hv)]; rfl
            obtain ⟨E1, E2⟩ := sres_no hno
            obtain rfl : R = [] := by rw [← HR.out, E1]
            obtain rfl : V = false := by rw [← HV.out, E2]
            go_wp2_with fail
            refine bodyPost_ret (v := .tuple #[.slice none 0 0, .bool false]) ?_ rfl ⟨none, 0, rfl, hB3, snil⟩
            simp only [results, Try.results12]
            go_simp
          · have h8 : bx.2.length ≤ 8 := by have := (regOk_t hv).2.1; omega
            have HC := Lib.hid (clone_c a2 bx.2.length c2 bx.2 w3.drew rfl (by omega) hs3 hs3.nil)
            have o0 := O3.cell 0 rfl
            have o1 := O3.cell 1 rfl
            have hwb : w1.heap.size ≤ w3.heap.size := by have := hb3.size; simp at this; omega
            have own3d := own3.below (bdrew (Below.refl _ w3))
            have hwd : w1.heap.size ≤ w3.drew.heap.size := hwb
            clear hs3 own3
            go_wp2_with fail
            go_region_law (first
              | (go_simp; go_at_call 36; with_reducible refine HC.out.mono ?_; rintro e w4 ⟨a4, c4, rfl, hb4, row4⟩; have N5 := Blk.new w4 #[.int .i64 bx.1, .slice a4 bx.2.length c4] 42; have own4 := own3d.below hb4; have own5 := own4.alloc (Obj.cells #[.int .i64 bx.1, .slice a4 bx.2.length c4] 42); have row5 := own5.row; have O4 := O3.drew.below hb4; have o40 := O4.cell 0 rfl; have hz4 := Nat.le_trans hwd hb4.size)
              | (refine step_append_lies _ (by rfl) _ _ _ (by rfl) w1.heap.size 42 j0 _ 2 32 Try.underlying26 GI.out GZ.out GZ1.out GY.out rfl (by omega) _ _ _ (by rfl) row5 ⟨w4.heap.size, 0, none⟩ 1 1 [.int .i64 bx.1, .slice a4 bx.2.length c4] (by rfl) (by rfl) (World.news_of_block N5) (by simp [Value.oneCell']) (by omega) (by unfold maxLen; omega) (by omega) (by simp; omega) (w4.heap.size + 1) (by simp) ?_; intro g2 cap2 w5 row6 hgrow hat hg2))
            all_goals
              have hB5 := bpush (bstep (bdrew hB3) hb4) (Obj.cells #[.int .i64 bx.1, .slice a4 bx.2.length c4] 42)
              have T5 := (T3.drew.below hb4).alloc (Obj.cells #[.int .i64 bx.1, .slice a4 bx.2.length c4] 42)
              have rowc5 := row_mono (row4.alloc (Obj.cells #[.int .i64 bx.1, .slice a4 bx.2.length c4] 42)) (B' := w1.heap.size) hwd
              have hc6 := chg_grown row5 hgrow
              have T6 := T5.grown hgrow (fun h => by have := rows_lt row5 _ h; omega)
              have in6 : ∀ t ∈ sl, w5.ownsRow w1.heap.size 30 2 (inS t) t.2.1.length (flat t.2.1) := fun t m => row_grown (own5.ins t m) hgrow (rows_ne (own5.ins t m) row5 (by decide))
              have rowc6 := row_grown rowc5 hgrow (rows_ne rowc5 row5 (by decide))
              have own6 := SvR.snoc (t := (bx.1, bx.2, a4, c4)) row6 in6 rowc6
              have hz5 : w1.heap.size ≤ w5.heap.size := by have := hc6.size; simp at this; omega
              have hB6 : Below w.heap.size w w5 := hB5.trans (hc6.below (by omega) (by simp; omega))
              clear hB5 T5 rowc5 row5 row6 in6 rowc6 own4 own5 hc6 hgrow hat
              go_wp2_with fail
              go_roundw
              case rel =>
                refine ⟨k + 1, sl ++ [(bx.1, bx.2, a4, c4)], by omega, by go_num, by simp; omega, ?_, ?_, ?_, hz5, hB6, T6, by rw [← hlk]; exact own6⟩
                · rw [srvs_snoc, HSV.out, take_snoc (d := (0, [])) (by omega), HBX.out]
                · intro j hj
                  by_cases e : j = k
                  · subst e; rw [HBX.out]; exact hv
                  · exact HAL.out j (by omega)
                · exact all_snoc (P := fun t => t.2.1.length ≤ 8) HM8.out h8
              case measure => simp [intOf]; omega
        · obtain rfl : k = n := by omega
          have hsv : srvs sl = ss := by rw [HSV.out, List.take_of_length_le (by omega)]
          have hok : sTryOk ss i t = true := stry_mk (srv_mk (by omega) (by rw [hl]; exact HAL.out)) G2.out hA0 (by omega)
          have ho := ownr.row
          rw [hlk] at ho
          obtain ⟨av, cp, rfl⟩ := row_form ho
          by_cases hhome : H = (i : Int)
          · subst hhome
            have hin : i < k := by omega
            obtain ⟨g, rfl⟩ : ∃ g, av = some ⟨g, 0, none⟩ := by
              rcases ho.2 with ⟨h0, h1⟩ | ⟨g, cap', cur, h0, _⟩
              · simp only [Value.slice.injEq] at h0; omega
              · simp only [Value.slice.injEq] at h0; exact ⟨g, h0.1⟩
            obtain ⟨hg, cs, hcs, hsz, hat⟩ := ownr.blk hlk
            obtain ⟨y0, y1⟩ := hat i hin
            have hs := ownr.inner hlk HM8.out hin
            have hss := srvs_at sl i
            obtain ⟨nw, l, sa, c, hz⟩ : ∃ nw l sa c, sl.getD i (0, [], none, 0) = (nw, l, sa, c) := ⟨_, _, _, _, rfl⟩
            rw [hz] at y0 y1 hs hss
            rw [hsv] at hss
            have y0 := hcs.cell _ y0
            have y1 := hcs.cell _ y1
            simp only [inS] at y0 y1 hs
            have hs := hs.mono (Nat.le_refl _)
            have HT := Lib.hid (rtry_u nw t sa l.length c l wr.drew rfl hs)
            have HTa := Lib.hid (rtry_u nw t sa l.length c l (wr.alloc z0Reg).drew rfl (sl_push hs z0Reg))
            obtain ⟨E1, E2⟩ := sres_home hok (by rw [hl, HH.out])
            rw [hss] at E1 E2
            simp only at E1 E2
            obtain ⟨N, hN⟩ : ∃ x, tryN nw l t = x := ⟨_, rfl⟩
            obtain ⟨L, hL⟩ : ∃ x, tryS nw l t = x := ⟨_, rfl⟩
            obtain ⟨U, hU⟩ : ∃ x, tryV nw l t = x := ⟨_, rfl⟩
            rw [hN, hL, hU] at HT HTa
            rw [hN, hL] at E1
            rw [hU] at E2
            have hRe : R = ss.set i (N, L) := by rw [← HR.out, E1]
            have hVe : V = U := by rw [← HV.out, E2]
            have HRe := Lib.hid hRe
            have HVe := Lib.hid hVe
            have HSE := Lib.hid hsv
            have HO := Lib.hid ownr
            have t0 := Tr.cell 0 rfl
            have t1 := Tr.cell 1 rfl
            have qT := Tr.lt
            have qg := hcs.lt
            clear hN hL hU hRe hVe E1 E2 hs hss hz hat hok hsv ho ownr
            go_wp2_with fail
            go_region_law (first
              | (go_simp; go_at_call 28; with_reducible refine HT.out.mono ?_; rintro e w3 ⟨a3, c3, rfl, hb3, ow3⟩; have way : True := trivial)
              | (go_simp; go_at_call 28; with_reducible refine HTa.out.mono ?_; rintro e w3 ⟨a3, c3, rfl, hb3, ow3⟩; have Z3 := (Blk.new wr #[.int .i64 0, .slice none 0 0] 42).drew.below hb3; have z30 := Z3.cell 0 rfl; have z31 := Z3.cell 1 rfl; have z32 := Z3.free 0; have z33 := Z3.free 1))
            all_goals
              first
              | have _w := way
                have B4 := bpush (bstep (bdrew (Below.refl wr.heap.size wr)) hb3) (Obj.cells #[.int .i64 N, .slice a3 L.length c3] 42)
                have ow4 : Ow 2 (w3.alloc (Obj.cells #[.int .i64 N, .slice a3 L.length c3] 42)) wr.heap.size a3 L.length (tkG L) := ow3.below (bpush (Below.refl w3.heap.size w3) _)
                have Z4 := Blk.new w3 #[.int .i64 N, .slice a3 L.length c3] 42
                have hgZ : g < w3.heap.size := Nat.lt_of_lt_of_le qg hb3.size
                clear way _w hb3 ow3
                generalize (w3.alloc (Obj.cells #[.int .i64 N, .slice a3 L.length c3] 42)) = W4 at B4 ow4 Z4 ⊢
                generalize w3.heap.size = Z at Z4 hgZ ⊢
              | have hq : (wr.alloc z0Reg).drew.heap.size = wr.heap.size + 1 := by show (wr.alloc z0Reg).heap.size = _; simp
                have B4 : Below wr.heap.size wr ((w3.setCell ⟨wr.heap.size, 0, none⟩ (.int .i64 N)).setCell ⟨wr.heap.size, 1, none⟩ (.slice a3 L.length c3)) := Below.setCell (Below.setCell (bstep (bdrew (bpush (Below.refl wr.heap.size wr) z0Reg)) hb3) (by simp) _) (by simp) _
                have ow4 := (ow_set (b := wr.heap.size) (j := 1) (u := .slice a3 L.length c3) (ow_set (b := wr.heap.size) (j := 0) (u := .int .i64 N) ow3 (by rw [hq]; omega)) (by rw [hq]; omega)).mono (B' := wr.heap.size) (by rw [hq]; omega)
                have Z4 : Blk ((w3.setCell ⟨wr.heap.size, 0, none⟩ (.int .i64 N)).setCell ⟨wr.heap.size, 1, none⟩ (.slice a3 L.length c3)) wr.heap.size #[.int .i64 N, .slice a3 L.length c3] 42 := (Z3.set 0 (.int .i64 N)).set 1 (.slice a3 L.length c3)
                have hgZ : g < wr.heap.size := qg
                clear hb3 ow3 Z3 z30 z31 z32 z33 hq
                generalize ((w3.setCell ⟨wr.heap.size, 0, none⟩ (.int .i64 N)).setCell ⟨wr.heap.size, 1, none⟩ (.slice a3 L.length c3)) = W4 at B4 ow4 Z4 ⊢
              have own4 := HO.out.below B4
              have hB4 := bstep hbr B4
              obtain ⟨hg4, cs4, hcs4, _, hat4⟩ := own4.blk hlk
              obtain ⟨y0', y1'⟩ := hat4 i hin
              clear y0 y1 t0 t1 hcs hat4 HT HTa Tr
              have y0 := hcs4.cell _ y0'
              have y1 := hcs4.cell _ y1'
              have f0 := hcs4.free (i * 2)
              have f1 := hcs4.free (i * 2 + 1)
              have z0 := Z4.cell 0 rfl
              have z1 := Z4.cell 1 rfl
              go_wp2_with fail
              refine bodyPost_ret (v := .tuple #[.slice (some ⟨g, 0, none⟩) k cp, .bool U]) ?_ rfl ⟨some ⟨g, 0, none⟩, cp, by rw [HRe.out, HVe.out, List.length_set, hl], ?_, ?_⟩
              · simp only [results, Try.results12]
                go_simp
              · repeat (first | with_reducible exact hB4 | with_reducible refine Below.setCell ?_ (by simp <;> omega) _)
              · rw [HRe.out, List.length_set, hl, ← HSE.out]
                exact put_nr own4 hlk (by omega) HM8.out hin ow4 qg
          · obtain ⟨E1, E2⟩ := sres_away hok (by rw [hl, HH.out]; exact fun h => hhome h.symm)
            have hRe : R = ss := by rw [← HR.out, E1]
            have hVe : V = false := by rw [← HV.out, E2]
            have nr := ownr.nr hlk (by omega) HM8.out
            rw [hsv] at nr
            have hhome' : ¬ (i : Int) = H := fun h => hhome h.symm
            clear E1 E2 hok hsv ho ownr
            go_wp2_with fail
            refine bodyPost_ret (v := .tuple #[.slice av k cp, .bool false]) ?_ rfl ⟨av, cp, by rw [hRe, hVe, hl], hbr, by rw [hRe, hl]; exact nr⟩
            simp only [results, Try.results12]
            go_simp
  · have hno : sTryOk ss A t = false := by
      cases h : sTryOk ss A t
      · rfl
      · obtain ⟨k1, k2, _⟩ := stry_t h
        have k3 := (srv_t k1).1
        exact absurd ⟨inB_t (by omega), k2⟩ hh
    have E : homeF n t.1 t.2 = -1 := by unfold homeF; rw [if_neg hh]
    obtain ⟨E1, E2⟩ := sres_no hno
    rw [E1, E2]
    clear HB
    go_enter Try.func12, Try.ntmps12
    have t0 := T0.cell 0 rfl
    have t1 := T0.cell 1 rfl
    go_wp2_with fail
    refine (home_impl n t.1 t.2 _).mono ?_
    rintro e w1 ⟨rfl, hb1⟩
    rw [E]
    have hB1 := bstep hb0 hb1
    clear T0 t0 t1
    go_wp2_with fail
    refine bodyPost_ret (v := .tuple #[.slice none 0 0, .bool false]) ?_ rfl ⟨none, 0, rfl, hB1, snil⟩
    simp only [results, Try.results12]
    go_simp
end Go.Proofs.Ytjlaikmilcgmhaa
