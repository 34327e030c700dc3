/- A ticket presented to servers: the program's way, and that what it hands back is its own. -/
import Derived.Test.YtjlaikmilcgmhaaUc
import Derived.Test.YtjlaikmilcgmhaaSd
namespace Go.Proofs.Ytjlaikmilcgmhaa
open Go.RowKit
set_option linter.unusedVariables false
attribute [local go_sem ↓] Go.wp_at_zero Go.wp_at_succ

theorem tryS_len (now : Int) (l : TL) (t : Int × Int) : (tryS now l t).length ≤ l.length ∨ (tryS now l t).length ≤ 9 := by
  unfold tryS
  cases h : tryOk now l t
  · left; simp
  · simp only [if_true]
    split
    · right
      unfold tryOk at h
      simp only [Bool.and_eq_true] at h
      have := (regOk_t h.1).2.1
      rw [insT_length]; omega
    · left; omega
/-- What presenting a ticket hands back: servers of one's own. -/
def STo (w : World) (R : SV) (V : Bool) (e : Ending) (w' : World) : Prop :=
  ∃ (a : Option Addr) (c : Nat) (bl : SR), e = .returned (.tuple #[.slice a bl.length c, .bool V]) ∧ Below w.heap.size w w' ∧ srvs bl = R ∧ Rw w' w.heap.size w'.heap.size a bl
theorem srvs_set (sl : SR) (i : Nat) (t : Int × TL × Option Addr × Nat) : srvs (sl.set i t) = (srvs sl).set i (t.1, t.2.1) := by simp [srvs, List.map_set]
theorem row_blk {w : World} {base k n cap : Nat} {a : Option Addr} {e : TypeId} {xs : List Value} (h : w.ownsRow base e k (.slice a n cap) n xs) (hn : 0 < n) : ∃ g, a = some ⟨g, 0, none⟩ ∧ base ≤ g ∧ g < w.heap.size := by
  rcases h.2 with ⟨h0, _⟩ | ⟨g, cap', cur, h0, hb, hc, _⟩
  · simp only [Value.slice.injEq] at h0; omega
  · simp only [Value.slice.injEq] at h0
    exact ⟨g, h0.1, hb, (Array.getElem?_eq_some_iff.1 hc).1⟩
theorem row_new {w w4 : World} {B base k k' n n' cap cap' : Nat} {a a' : Option Addr} {e e' : TypeId} {xs xs' : List Value} (h4 : w4.ownsRow B e k (.slice a n cap) n xs) (h : w.ownsRow base e' k' (.slice a' n' cap') n' xs') (hB : w.heap.size ≤ B) (h1 : 0 < n') (h2 : 0 < n) : a' ≠ a := by
  obtain ⟨g, rfl, g1, _⟩ := row_blk h4 h2
  obtain ⟨g', rfl, _, g3⟩ := row_blk h h1
  simp only [ne_eq, Option.some.injEq, Addr.mk.injEq, and_true]
  omega
theorem svr_old {w : World} {base : Nat} {v : Value} {sl : SR} (h : SvR w base v sl) : ∀ t ∈ sl, 0 < t.2.1.length → ∃ b', t.2.2.1 = some ⟨b', 0, none⟩ ∧ b' < w.heap.size := fun t m hn => by
  obtain ⟨g, e, _, hg⟩ := row_blk (h.ins t m) hn
  exact ⟨g, e, hg⟩
theorem svr_in {w : World} {base g n cap : Nat} {sl : SR} (h : SvR w base (.slice (some ⟨g, 0, none⟩) n cap) sl) (hl : sl.length = n) (hm : ∀ t ∈ sl, t.2.1.length ≤ 8) : ∀ t ∈ sl, t.2.1.length ≤ 1048576 ∧ Apt w.heap.size g t.2.2.1 t.2.1.length ∧ Ow 2 w base t.2.2.1 t.2.1.length (tkG t.2.1) := fun t m => by
  have hr := h.ins t m
  obtain ⟨_, cs, hc, _⟩ := h.blk hl
  have h8 := hm t m
  refine ⟨by omega, ?_, ?_⟩
  · by_cases hn : t.2.1.length = 0
    · exact .inl hn
    · obtain ⟨g', e, _, hg⟩ := row_blk hr (by omega)
      refine .inr ⟨g', e, hg, ?_⟩
      unfold inS at hr
      have hne := row_ne hr hc (by decide)
      rintro rfl
      rw [e] at hne
      exact hne rfl
  · unfold inS at hr
    exact ow_of_row hr (by omega) (fun i hi j hj => flat_at _ i hi j hj)
theorem svr_rw {w : World} {base n cap : Nat} {a : Option Addr} {sl : SR} (h : SvR w base (.slice a n cap) sl) (hl : sl.length = n) (hm : ∀ t ∈ sl, t.2.1.length ≤ 8) (hd : DJ sl) : Rw w base w.heap.size a sl := by
  by_cases h0 : n = 0
  · exact .inl (List.length_eq_zero_iff.1 (by omega))
  · obtain ⟨g, rfl, _, _⟩ := row_blk (hl ▸ h.row) (by omega)
    obtain ⟨hg, cs, hc, hsz, hat⟩ := h.blk hl
    exact .inr ⟨g, cs, rfl, hg, hc.lt, hc, by omega, fun i hi => hat i (by omega), svr_in h hl hm, hd⟩
theorem put_rw {w : World} {base g n cap i B' c' : Nat} {sl : SR} {N : Int} {L : TL} {a' : Option Addr} (h : SvR w base (.slice (some ⟨g, 0, none⟩) n cap) sl) (hl : sl.length = n) (hm : ∀ t ∈ sl, t.2.1.length ≤ 8) (hi : i < n) (hO : Ow 2 w B' a' L.length (tkG L)) (hB : g < B')
    (hold : ∀ t ∈ sl, 0 < t.2.1.length → ∃ b', t.2.2.1 = some ⟨b', 0, none⟩ ∧ b' < B') (hL : L.length ≤ 1048576) (hd : DJ sl) (hbase : base ≤ B') :
    Rw ((w.setCell ⟨g, i * 2, none⟩ (.int .i64 N)).setCell ⟨g, i * 2 + 1, none⟩ (.slice a' L.length c')) base ((w.setCell ⟨g, i * 2, none⟩ (.int .i64 N)).setCell ⟨g, i * 2 + 1, none⟩ (.slice a' L.length c')).heap.size (some ⟨g, 0, none⟩) (sl.set i (N, L, a', c')) := by
  obtain ⟨hg, cs, hc, hsz, hat⟩ := h.blk hl
  have K := (hc.set (i * 2) (.int .i64 N)).set (i * 2 + 1) (.slice a' L.length c')
  have hin := svr_in h hl hm
  have hap := ow_apt hO hB
  have hz : ((w.setCell ⟨g, i * 2, none⟩ (.int .i64 N)).setCell ⟨g, i * 2 + 1, none⟩ (.slice a' L.length c')).heap.size = w.heap.size := by simp [World.setCell]
  refine .inr ⟨g, _, rfl, hg, K.lt, K, by simpa [hl] using hsz, fun j hj => ?_, fun t m => ?_, dj_set hd (by omega) (fun u m h1 h2 => ?_)⟩
  · rw [List.length_set] at hj
    obtain ⟨h1, h2⟩ := hat j (by omega)
    rw [getD_set (by omega)]
    by_cases e : j = i
    · subst e
      rw [if_pos rfl]
      constructor
      · rw [Array.getElem?_setIfInBounds, if_neg (by omega), Array.getElem?_setIfInBounds, if_pos (by omega), if_pos (by omega)]
      · rw [Array.getElem?_setIfInBounds, if_pos (by omega), if_pos (by rw [Array.size_setIfInBounds]; omega)]; rfl
    · rw [if_neg e]
      constructor
      · rw [Array.getElem?_setIfInBounds, if_neg (by omega), Array.getElem?_setIfInBounds, if_neg (by omega)]; exact h1
      · rw [Array.getElem?_setIfInBounds, if_neg (by omega), Array.getElem?_setIfInBounds, if_neg (by omega)]; exact h2
  · rw [hz]
    rcases List.mem_or_eq_of_mem_set m with m | rfl
    · obtain ⟨i1, i2, i3⟩ := hin t m
      exact ⟨i1, i2, ow_oth (ow_oth i3 i2) i2⟩
    · exact ⟨hL, hap, (ow_oth (ow_oth hO hap) hap).mono hbase⟩
  · obtain ⟨b', e, hb'⟩ := hold u m h1
    exact ow_new (B := B') (H := B') (b := b' + 1) (m := u.2.1.length) hO (.inr ⟨b', e, hb', by omega⟩) (Nat.le_refl _) h1 h2
set_option maxHeartbeats 16000000 in
theorem stry_own (A : Int) (t : Int × Int) (a : Option Addr) (n cap : Nat) (ss : SV) (w : World) (HB : Nr w w.heap.size a n ss) :
    Calls Try.prog 12 #[.slice a n cap, .int .i64 A, .agg #[.int .i64 t.1, .int .i64 t.2]] w (STo w (sRes ss A t) (sV ss A t)) := by
  have hn := HB.len
  have hl := HB.length
  have hb0 := bpush (Below.refl w.heap.size w) (Obj.cells #[.int .i64 t.1, .int .i64 t.2] 30)
  have T0 := Blk.new w #[.int .i64 t.1, .int .i64 t.2] 30
  by_cases hh : inB (n : Int) 1 4 = true ∧ tkOk t.1 t.2 = true
  · have E : homeF n t.1 t.2 = t.1 % (n : Int) := by unfold homeF; rw [if_pos hh]
    obtain ⟨g1, g2⟩ := hh
    have hn14 : 1 ≤ (n : Int) ∧ (n : Int) ≤ 4 := by simpa [inB] using g1
    obtain ⟨hn1, hn4⟩ := hn14
    obtain ⟨H, hH⟩ : ∃ x, t.1 % (n : Int) = x := ⟨_, rfl⟩
    have hH0 : 0 ≤ H := by rw [← hH]; exact Int.emod_nonneg _ (by omega)
    have hH1 : H < n := by rw [← hH]; exact Int.emod_lt_of_pos _ (by omega)
    have hHn : ¬ H < 0 := by omega
    rw [hH] at E
    cases b2 : inB A 0 ((n : Int) - 1)
    · have hno : sTryOk ss A t = false := by unfold sTryOk; rw [hl, b2, Bool.and_false]
      obtain ⟨E1, E2⟩ := sres_no hno
      rw [E1, E2]
      clear HB
      go_enter Try.func12, Try.ntmps12
      have t0 := T0.cell 0 rfl
      have t1 := T0.cell 1 rfl
      go_wp2_with fail
      refine (home_impl n t.1 t.2 _).mono ?_
      rintro e w1 ⟨rfl, hb1⟩
      rw [E]
      have hB1 := bstep hb0 hb1
      clear T0 t0 t1
      go_wp2_with (go_at_call 35; refine (within_c _ _ _ _).mono ?_; rintro e w' ⟨rfl, rfl⟩; rw [b2])
      refine bodyPost_ret (v := .tuple #[.slice none 0 0, .bool false]) ?_ rfl ⟨none, 0, [], rfl, hB1, rfl, .inl rfl⟩
      simp only [results, Try.results12]
      go_simp
    · have hA := b2
      have hA' : 0 ≤ A ∧ A ≤ (n : Int) - 1 := by simpa [inB] using hA
      obtain ⟨hA0, hA1⟩ := hA'
      obtain ⟨i, rfl⟩ := Int.eq_ofNat_of_zero_le hA0
      obtain ⟨R, hR⟩ : ∃ x, sRes ss i t = x := ⟨_, rfl⟩
      obtain ⟨V, hV⟩ : ∃ x, sV ss i t = x := ⟨_, rfl⟩
      rw [hR, hV]
      have HR := Lib.hid hR
      have HV := Lib.hid hV
      have HH := Lib.hid hH
      have HN := Lib.hid HB
      have G2 := Lib.hid g2
      clear hR hV hH HB hA g2
      obtain ⟨j0, hj0, gz0, gs0, gy0⟩ := info_parts infoRg
      have GI := Lib.hid hj0
      have GZ := Lib.hid gz0
      have GZ1 := Lib.hid gs0
      have GY := Lib.hid gy0
      clear hj0 gz0 gs0 gy0
      go_enter Try.func12, Try.ntmps12
      have t0 := T0.cell 0 rfl
      have t1 := T0.cell 1 rfl
      go_wp2_with fail
      refine (home_impl n t.1 t.2 _).mono ?_
      rintro e w1 ⟨rfl, hb1⟩
      rw [E]
      have hB1 := bstep hb0 hb1
      have T1 := T0.below hb1
      have hz1 : w.heap.size < w1.heap.size := by have := hb1.size; simp at this; omega
      have own0 := nil_srv w1 w1.heap.size
      clear T0 t0 t1 E hb0 hb1
      go_wp2_with (go_at_call 35; refine (within_c _ _ _ _).mono ?_; rintro e w' ⟨rfl, rfl⟩; rw [b2])
      go_loopw [9, 30] (fun v j wr => ∃ (k : Nat) (sl : SR), k ≤ n ∧ j = .int .i64 k ∧ sl.length = k ∧ srvs sl = ss.take k ∧ (∀ j, j < k → regOk (ss.getD j (0, [])).1 (ss.getD j (0, [])).2 = true) ∧ (∀ t ∈ sl, t.2.1.length ≤ 8) ∧ w1.heap.size ≤ wr.heap.size ∧ Below w.heap.size w wr ∧ Blk wr w.heap.size #[.int .i64 t.1, .int .i64 t.2] 30 ∧ DJ sl ∧ SvR wr w1.heap.size v sl) (fun _ j _ => n - (intOf j).toNat)
      case atStart => exact ⟨0, [], by omega, rfl, rfl, rfl, (fun j hj => by omega), (fun t m => by cases m), by omega, hB1, T1, dj_nil, own0⟩
      case round =>
        clear hB1 T1 own0
        obtain ⟨k, sl, hk, rfl, hlk, hsv, hall, hm8, hz, hbr, Tr, hdj, ownr⟩ := hrel
        have HDJ := Lib.hid hdj
        have HSV := Lib.hid hsv
        have HAL := Lib.hid hall
        have HM8 := Lib.hid hm8
        clear hsv hall hm8 hdj
        by_cases hlt : k < n
        · have hki : (k : Int) < (n : Int) := by omega
          obtain ⟨b, off, a2, c2, rfl, hB, x0, x1, hs⟩ := (HN.out.below hbr).at hlt
          obtain ⟨bx, hbx⟩ : ∃ p, ss.getD k (0, []) = p := ⟨_, rfl⟩
          rw [hbx] at x0 x1 hs
          have hs1 := sl_push (hs.mono hbr.size) (Obj.cells #[.int .i64 bx.1, .slice a2 bx.2.length c2] 42)
          have O1 := Blk.new wr #[.int .i64 bx.1, .slice a2 bx.2.length c2] 42
          have T2 := Tr.alloc (Obj.cells #[.int .i64 bx.1, .slice a2 bx.2.length c2] 42)
          have own2 := ownr.alloc (Obj.cells #[.int .i64 bx.1, .slice a2 bx.2.length c2] 42)
          have hb2 := bpush hbr (Obj.cells #[.int .i64 bx.1, .slice a2 bx.2.length c2] 42)
          have HBX := Lib.hid hbx
          have o0 := O1.cell 0 rfl
          have o1 := O1.cell 1 rfl
          clear hbx hs Tr ownr hbr
          go_wp2_with fail
          refine (rvalid_impl bx.1 a2 bx.2.length c2 bx.2 _ rfl hs1).mono ?_
          rintro e w3 ⟨rfl, hb3⟩
          have O3 := O1.below hb3
          have T3 := T2.below hb3
          have own3 := own2.below hb3
          have hB3 := bstep hb2 hb3
          have hs3 := sl_step hs1 hb3
          clear o0 o1 x0 x1 O1 T2 own2 hs1 hb2
          cases hv : regOk bx.1 bx.2
          · have hno : sTryOk ss i t = false := by
              unfold sTryOk
              rw [srv_no (i := k) (by omega) (by rw [HBX.out]; exact hv)]; rfl
            obtain ⟨E1, E2⟩ := sres_no hno
            obtain rfl : R = [] := by rw [← HR.out, E1]
            obtain rfl : V = false := by rw [← HV.out, E2]
            go_wp2_with fail
            refine bodyPost_ret (v := .tuple #[.slice none 0 0, .bool false]) ?_ rfl ⟨none, 0, [], rfl, hB3, rfl, .inl rfl⟩
            simp only [results, Try.results12]
            go_simp
          · have h8 : bx.2.length ≤ 8 := by have := (regOk_t hv).2.1; omega
            have HC := Lib.hid (clone_c a2 bx.2.length c2 bx.2 w3.drew rfl (by omega) hs3 hs3.nil)
            have o0 := O3.cell 0 rfl
            have o1 := O3.cell 1 rfl
            have hwb : w1.heap.size ≤ w3.heap.size := by have := hb3.size; simp at this; omega
            have own3d := own3.below (bdrew (Below.refl _ w3))
            have hwd : w1.heap.size ≤ w3.drew.heap.size := hwb
            clear hs3 own3
            go_wp2_with fail
            go_region_law (first
              | (go_simp; go_at_call 36; with_reducible refine HC.out.mono ?_; rintro e w4 ⟨a4, c4, rfl, hb4, row4⟩; have N5 := Blk.new w4 #[.int .i64 bx.1, .slice a4 bx.2.length c4] 42; have own4 := own3d.below hb4; have own5 := own4.alloc (Obj.cells #[.int .i64 bx.1, .slice a4 bx.2.length c4] 42); have row5 := own5.row; have O4 := O3.drew.below hb4; have o40 := O4.cell 0 rfl; have hz4 := Nat.le_trans hwd hb4.size)
              | (refine step_append_lies _ (by rfl) _ _ _ (by rfl) w1.heap.size 42 j0 _ 2 32 Try.underlying26 GI.out GZ.out GZ1.out GY.out rfl (by omega) _ _ _ (by rfl) row5 ⟨w4.heap.size, 0, none⟩ 1 1 [.int .i64 bx.1, .slice a4 bx.2.length c4] (by rfl) (by rfl) (World.news_of_block N5) (by simp [Value.oneCell']) (by omega) (by unfold maxLen; omega) (by omega) (by simp; omega) (w4.heap.size + 1) (by simp) ?_; intro g2 cap2 w5 row6 hgrow hat hg2))
            all_goals
              have hB5 := bpush (bstep (bdrew hB3) hb4) (Obj.cells #[.int .i64 bx.1, .slice a4 bx.2.length c4] 42)
              have T5 := (T3.drew.below hb4).alloc (Obj.cells #[.int .i64 bx.1, .slice a4 bx.2.length c4] 42)
              have rowc5 := row_mono (row4.alloc (Obj.cells #[.int .i64 bx.1, .slice a4 bx.2.length c4] 42)) (B' := w1.heap.size) hwd
              have HDN := Lib.hid (dj_snoc (t := (bx.1, bx.2, a4, c4)) HDJ.out (fun u m h1 h2 => row_new row4 (own3d.ins u m) (Nat.le_refl _) h1 h2))
              have hc6 := chg_grown row5 hgrow
              have T6 := T5.grown hgrow (fun h => by have := rows_lt row5 _ h; omega)
              have in6 : ∀ t ∈ sl, w5.ownsRow w1.heap.size 30 2 (inS t) t.2.1.length (flat t.2.1) := fun t m => row_grown (own5.ins t m) hgrow (rows_ne (own5.ins t m) row5 (by decide))
              have rowc6 := row_grown rowc5 hgrow (rows_ne rowc5 row5 (by decide))
              have own6 := SvR.snoc (t := (bx.1, bx.2, a4, c4)) row6 in6 rowc6
              have hz5 : w1.heap.size ≤ w5.heap.size := by have := hc6.size; simp at this; omega
              have hB6 : Below w.heap.size w w5 := hB5.trans (hc6.below (by omega) (by simp; omega))
              clear hB5 T5 rowc5 row5 row6 in6 rowc6 own4 own5 hc6 hgrow hat
              go_wp2_with fail
              go_roundw
              case rel =>
                refine ⟨k + 1, sl ++ [(bx.1, bx.2, a4, c4)], by omega, by go_num, by simp; omega, ?_, ?_, ?_, hz5, hB6, T6, HDN.out, by rw [← hlk]; exact own6⟩
                · rw [srvs_snoc, HSV.out, take_snoc (d := (0, [])) (by omega), HBX.out]
                · intro j hj
                  by_cases e : j = k
                  · subst e; rw [HBX.out]; exact hv
                  · exact HAL.out j (by omega)
                · exact all_snoc (P := fun t => t.2.1.length ≤ 8) HM8.out h8
              case measure => simp [intOf]; omega
        · obtain rfl : k = n := by omega
          have hsv : srvs sl = ss := by rw [HSV.out, List.take_of_length_le (by omega)]
          have hok : sTryOk ss i t = true := stry_mk (srv_mk (by omega) (by rw [hl]; exact HAL.out)) G2.out hA0 (by omega)
          have ho := ownr.row
          rw [hlk] at ho
          obtain ⟨av, cp, rfl⟩ := row_form ho
          by_cases hhome : H = (i : Int)
          · subst hhome
            have hin : i < k := by omega
            obtain ⟨g, rfl⟩ : ∃ g, av = some ⟨g, 0, none⟩ := by
              rcases ho.2 with ⟨h0, h1⟩ | ⟨g, cap', cur, h0, _⟩
              · simp only [Value.slice.injEq] at h0; omega
              · simp only [Value.slice.injEq] at h0; exact ⟨g, h0.1⟩
            obtain ⟨hg, cs, hcs, hsz, hat⟩ := ownr.blk hlk
            obtain ⟨y0, y1⟩ := hat i hin
            have hs := ownr.inner hlk HM8.out hin
            have hss := srvs_at sl i
            obtain ⟨nw, l, sa, c, hz⟩ : ∃ nw l sa c, sl.getD i (0, [], none, 0) = (nw, l, sa, c) := ⟨_, _, _, _, rfl⟩
            rw [hz] at y0 y1 hs hss
            rw [hsv] at hss
            have y0 := hcs.cell _ y0
            have y1 := hcs.cell _ y1
            simp only [inS] at y0 y1 hs
            have hs := hs.mono (Nat.le_refl _)
            have h8 := HM8.out _ (getD_mem (d := (0, [], none, 0)) (show i < sl.length by omega))
            rw [hz] at h8
            have hLl := tryS_len nw l t
            have HT := Lib.hid (rtry_u nw t sa l.length c l wr.drew rfl hs)
            have HTa := Lib.hid (rtry_u nw t sa l.length c l (wr.alloc z0Reg).drew rfl (sl_push hs z0Reg))
            obtain ⟨E1, E2⟩ := sres_home hok (by rw [hl, HH.out])
            rw [hss] at E1 E2
            simp only at E1 E2
            obtain ⟨N, hN⟩ : ∃ x, tryN nw l t = x := ⟨_, rfl⟩
            obtain ⟨L, hL⟩ : ∃ x, tryS nw l t = x := ⟨_, rfl⟩
            obtain ⟨U, hU⟩ : ∃ x, tryV nw l t = x := ⟨_, rfl⟩
            rw [hN, hL, hU] at HT HTa
            rw [hL] at hLl
            have hLb : L.length ≤ 1048576 := by have : l.length ≤ 8 := h8; omega
            have HLB := Lib.hid hLb
            rw [hN, hL] at E1
            rw [hU] at E2
            have hRe : R = ss.set i (N, L) := by rw [← HR.out, E1]
            have hVe : V = U := by rw [← HV.out, E2]
            have HRe := Lib.hid hRe
            have HVe := Lib.hid hVe
            have HSE := Lib.hid hsv
            have HO := Lib.hid ownr
            have t0 := Tr.cell 0 rfl
            have t1 := Tr.cell 1 rfl
            have qT := Tr.lt
            have qg := hcs.lt
            clear hN hL hU hRe hVe h8 hLl hLb E1 E2 hs hss hz hat hok hsv ho ownr
            go_wp2_with fail
            go_region_law (first
              | (go_simp; go_at_call 28; with_reducible refine HT.out.mono ?_; rintro e w3 ⟨a3, c3, rfl, hb3, ow3⟩; have way : True := trivial)
              | (go_simp; go_at_call 28; with_reducible refine HTa.out.mono ?_; rintro e w3 ⟨a3, c3, rfl, hb3, ow3⟩; have Z3 := (Blk.new wr #[.int .i64 0, .slice none 0 0] 42).drew.below hb3; have z30 := Z3.cell 0 rfl; have z31 := Z3.cell 1 rfl; have z32 := Z3.free 0; have z33 := Z3.free 1))
            all_goals
              first
              | have _w := way
                have B4 := bpush (bstep (bdrew (Below.refl wr.heap.size wr)) hb3) (Obj.cells #[.int .i64 N, .slice a3 L.length c3] 42)
                have ow4 : Ow 2 (w3.alloc (Obj.cells #[.int .i64 N, .slice a3 L.length c3] 42)) wr.heap.size a3 L.length (tkG L) := ow3.below (bpush (Below.refl w3.heap.size w3) _)
                have Z4 := Blk.new w3 #[.int .i64 N, .slice a3 L.length c3] 42
                have hgZ : g < w3.heap.size := Nat.lt_of_lt_of_le qg hb3.size
                clear way _w hb3 ow3
                generalize (w3.alloc (Obj.cells #[.int .i64 N, .slice a3 L.length c3] 42)) = W4 at B4 ow4 Z4 ⊢
                generalize w3.heap.size = Z at Z4 hgZ ⊢
              | have hq : (wr.alloc z0Reg).drew.heap.size = wr.heap.size + 1 := by show (wr.alloc z0Reg).heap.size = _; simp
                have B4 : Below wr.heap.size wr ((w3.setCell ⟨wr.heap.size, 0, none⟩ (.int .i64 N)).setCell ⟨wr.heap.size, 1, none⟩ (.slice a3 L.length c3)) := Below.setCell (Below.setCell (bstep (bdrew (bpush (Below.refl wr.heap.size wr) z0Reg)) hb3) (by simp) _) (by simp) _
                have ow4 := (ow_set (b := wr.heap.size) (j := 1) (u := .slice a3 L.length c3) (ow_set (b := wr.heap.size) (j := 0) (u := .int .i64 N) ow3 (by rw [hq]; omega)) (by rw [hq]; omega)).mono (B' := wr.heap.size) (by rw [hq]; omega)
                have Z4 : Blk ((w3.setCell ⟨wr.heap.size, 0, none⟩ (.int .i64 N)).setCell ⟨wr.heap.size, 1, none⟩ (.slice a3 L.length c3)) wr.heap.size #[.int .i64 N, .slice a3 L.length c3] 42 := (Z3.set 0 (.int .i64 N)).set 1 (.slice a3 L.length c3)
                have hgZ : g < wr.heap.size := qg
                clear hb3 ow3 Z3 z30 z31 z32 z33 hq
                generalize ((w3.setCell ⟨wr.heap.size, 0, none⟩ (.int .i64 N)).setCell ⟨wr.heap.size, 1, none⟩ (.slice a3 L.length c3)) = W4 at B4 ow4 Z4 ⊢
              have own4 := HO.out.below B4
              have hB4 := bstep hbr B4
              obtain ⟨hg4, cs4, hcs4, _, hat4⟩ := own4.blk hlk
              obtain ⟨y0', y1'⟩ := hat4 i hin
              clear y0 y1 t0 t1 hcs hat4 HT HTa Tr
              have y0 := hcs4.cell _ y0'
              have y1 := hcs4.cell _ y1'
              have f0 := hcs4.free (i * 2)
              have f1 := hcs4.free (i * 2 + 1)
              have z0 := Z4.cell 0 rfl
              have z1 := Z4.cell 1 rfl
              go_wp2_with fail
              refine bodyPost_ret (v := .tuple #[.slice (some ⟨g, 0, none⟩) k cp, .bool U]) ?_ rfl ⟨some ⟨g, 0, none⟩, cp, sl.set i (N, L, a3, c3), by rw [HVe.out, List.length_set, hlk], ?_, by rw [srvs_set, HSE.out, HRe.out], ?_⟩
              · simp only [results, Try.results12]
                go_simp
              · repeat (first | with_reducible exact hB4 | with_reducible refine Below.setCell ?_ (by simp <;> omega) _)
              · exact (put_rw own4 hlk HM8.out hin ow4 qg (svr_old HO.out) HLB.out HDJ.out (by omega)).mono (Nat.le_of_lt hz1)
          · obtain ⟨E1, E2⟩ := sres_away hok (by rw [hl, HH.out]; exact fun h => hhome h.symm)
            have hRe : R = ss := by rw [← HR.out, E1]
            have hVe : V = false := by rw [← HV.out, E2]
            have nr := Lib.hid ((svr_rw ownr hlk HM8.out HDJ.out).mono (Nat.le_of_lt hz1))
            have HSE := Lib.hid hsv
            have hhome' : ¬ (i : Int) = H := fun h => hhome h.symm
            clear E1 E2 hok hsv ho ownr
            go_wp2_with fail
            refine bodyPost_ret (v := .tuple #[.slice av k cp, .bool false]) ?_ rfl ⟨av, cp, sl, by rw [hVe, hlk], hbr, by rw [hRe, HSE.out], nr.out⟩
            simp only [results, Try.results12]
            go_simp
  · have hno : sTryOk ss A t = false := by
      cases h : sTryOk ss A t
      · rfl
      · obtain ⟨k1, k2, _⟩ := stry_t h
        have k3 := (srv_t k1).1
        exact absurd ⟨inB_t (by omega), k2⟩ hh
    have E : homeF n t.1 t.2 = -1 := by unfold homeF; rw [if_neg hh]
    obtain ⟨E1, E2⟩ := sres_no hno
    rw [E1, E2]
    clear HB
    go_enter Try.func12, Try.ntmps12
    have t0 := T0.cell 0 rfl
    have t1 := T0.cell 1 rfl
    go_wp2_with fail
    refine (home_impl n t.1 t.2 _).mono ?_
    rintro e w1 ⟨rfl, hb1⟩
    rw [E]
    have hB1 := bstep hb0 hb1
    clear T0 t0 t1
    go_wp2_with fail
    refine bodyPost_ret (v := .tuple #[.slice none 0 0, .bool false]) ?_ rfl ⟨none, 0, [], rfl, hB1, rfl, .inl rfl⟩
    simp only [results, Try.results12]
    go_simp
end Go.Proofs.Ytjlaikmilcgmhaa
