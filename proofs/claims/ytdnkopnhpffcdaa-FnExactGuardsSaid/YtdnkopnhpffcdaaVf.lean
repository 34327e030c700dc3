/- The reference's derivation. -/
import Derived.Test.YtdnkopnhpffcdaaVe
namespace Go.Proofs.Ytdnkopnhpffcdaa
open Go.RowKit
set_option linter.unusedVariables false

theorem infoBl : (Try.prog.info? 4).map (fun i => (i.zero, i.size, i.bytes)) = some (some (.bool false), 1, 1) := by kernel_rfl
/-- A block of 21 answers: the set h. -/
def Bo (w : World) (b : Nat) (h : AS) : Prop := ∃ cs : Array Value, Blk w b cs 4 ∧ cs.size = 21 ∧ ∀ i : Nat, i < 21 → cs[i]? = some (.bool (h i))
theorem Bo.cell {w : World} {b : Nat} {h : AS} (B : Bo w b h) {i : Nat} (hi : i < 21) : w.cell? ⟨b, i, none⟩ = some (.bool (h i)) := by
  obtain ⟨cs, hb, hs, hc⟩ := B
  exact hb.cell i (hc i hi)
theorem Bo.free {w : World} {b : Nat} {h : AS} (B : Bo w b h) (i : Nat) : w.frozen? ⟨b, i, none⟩ = false := by
  obtain ⟨cs, hb, hs, hc⟩ := B
  exact hb.free i
theorem Bo.lt {w : World} {b : Nat} {h : AS} (B : Bo w b h) : b < w.heap.size := by
  obtain ⟨cs, hb, hs, hc⟩ := B
  exact hb.lt
theorem Bo.below {w w' : World} {b : Nat} {h : AS} (B : Bo w b h) (hb' : Below w.heap.size w w') : Bo w' b h := by
  obtain ⟨cs, hb, hs, hc⟩ := B
  exact ⟨cs, hb.below hb', hs, hc⟩
theorem Bo.set {w : World} {b P : Nat} {h : AS} (B : Bo w b h) (hP : P < 21) : Bo (w.setCell ⟨b, P, none⟩ (.bool true)) b (addA h [(P : Int)]) := by
  obtain ⟨cs, hb, hs, hc⟩ := B
  refine ⟨_, hb.set P (.bool true), by simpa using hs, fun i hi => ?_⟩
  unfold addA
  by_cases e : P = i
  · subst e
    simp [hs, hP]
  · rw [Array.getElem?_setIfInBounds_ne e, hc i hi]
    have : ¬ (i : Int) = (P : Int) := by omega
    simp [this]
theorem bo_made {w : World} {b base : Nat} (h : w.ownsRow base 4 1 (.slice (some ⟨b, 0, none⟩) (21 : Nat) 21) 21 (madeCells (Value.bool false).cells (21 * 1)).toList) : Bo w b (h0 []) := by
  obtain ⟨_, h⟩ := h
  rcases h with ⟨h, _⟩ | ⟨g', cap', cur, h, _, hg, _, _, hs, hx⟩
  · cases h
  · cases h
    refine ⟨cur, hg, hs, fun i hi => ?_⟩
    have hx' : cur.toList = (madeCells (Value.bool false).cells (21 * 1)).toList := by
      rw [← hx, List.take_of_length_le (by simp [hs])]
    have : cur = madeCells (Value.bool false).cells (21 * 1) := Array.toList_inj.1 hx'
    subst this
    have hh : (h0 [] (i : Int)) = false := by simp [h0]
    rw [hh]
    simp [madeCells, Value.cells, hi, Nat.mod_one]
theorem sec_len1 {bs : BX} {kn : List Int} (h : secOk bs kn = true) {k : Nat} (hk : k < bs.length) : 1 ≤ (bs.getD k (0, [])).2.length := by
  unfold secOk boxesOk at h
  simp only [Bool.and_eq_true, List.all_eq_true] at h
  have hb := h.1.2 _ (getD_mem (d := (0, [])) hk)
  unfold boxOk at hb
  simp only [Bool.and_eq_true, decide_eq_true_eq] at hb
  exact hb.1.2.1
theorem take_all {α : Type} {l : List α} {n : Nat} (h : l.length ≤ n) : l.take n = l := List.take_of_length_le h

set_option maxHeartbeats 4000000 in
theorem lderive_c (a ak : Option Addr) (n cap nk ck : Nat) (bs : BX) (kn : List Int) (skip : Int) (w : World) (HB : Ns 1 inG w w.heap.size a n bs) (hl : kn.length = nk) (S : Sl 1 w w.heap.size ak nk (inG kn)) (hv : secOk bs kn = true) :
    Calls Try.prog 44 #[.slice a n cap, .slice ak nk ck, .int .i64 skip] w fun e w' => ∃ b : Nat, e = .returned (.slice (some ⟨b, 0, none⟩) (21 : Nat) 21) ∧ w.heap.size ≤ b ∧ Below w.heap.size w w' ∧ Bo w' b (fin bs kn skip) := by
  have hnl := HB.length
  have hln := sec_len hv
  have HV := Lib.hid hv
  have HN := Lib.hid HB
  have HS := Lib.hid S
  obtain ⟨i0, hi0, hz0, hs0, hb0⟩ := info_parts infoBl
  clear hv HB S
  go_enter Try.func44, Try.ntmps44
  go_wp2_with (first | (at_make; refine wpList_make_full w rfl _ _ _ rfl w.heap.size _ i0 _ 1 Try.underlying57 hi0 hz0 hs0 _ _ _ _ 21 rfl rfl rfl rfl (by rw [hb0]; omega) (by unfold maxLen; omega) (Nat.le_refl _) ?_; intro w1 hown hgrow) | fail)
  have B1 := bo_made hown
  have hb1 := grown_below hgrow
  clear hown hgrow hi0 hz0 hs0 hb0
  go_loopw [8] (fun i wr => ∃ k : Nat, k ≤ nk ∧ i = .int .i64 k ∧ Below w.heap.size w wr ∧ Bo wr w.heap.size (h0 (kn.take k))) (fun i _ => nk - (intOf i).toNat)
  case atStart => exact ⟨0, by omega, rfl, hb1, B1⟩
  case round =>
    clear hb1 B1
    obtain ⟨k, hk, rfl, hb, hB⟩ := hrel
    by_cases hlt : k < nk
    · have hki : (k : Int) < (nk : Int) := by omega
      obtain ⟨b, off, rfl, hB', hc⟩ := is_at (HS.out.below hb) hlt
      have x := hc k hlt
      have hp1 := sec_known HV.out (k := k) (by omega)
      have HR := Lib.hid (h0_take (l := kn) (k := k) (by omega))
      obtain ⟨P, hp⟩ : ∃ P : Nat, kn.getD k 0 = (P : Int) := ⟨(kn.getD k 0).toNat, by omega⟩
      rw [hp] at x hp1 HR
      have hP : P < 21 := by omega
      have y0 := hB.cell hP
      have y1 := hB.free P
      have q := hB.lt
      have HQ := Lib.hid (hB.set hP)
      rw [← HR.out] at HQ
      have hPi : (P : Int) < 21 := by omega
      clear hc hp hp1 hB
      go_wp2_with fail
      go_roundw
      case rel => exact ⟨k + 1, by omega, by go_num, Below.setCell hb (by simp) _, HQ.out⟩
      case measure => simp [intOf]; omega
    · obtain rfl : k = nk := by omega
      have HB0 := Lib.hid hB
      rw [take_all (by omega)] at HB0
      clear hB
      go_wp2_with fail
      go_loopw [9] (fun i wr => ∃ r : Nat, r ≤ n + 1 ∧ i = .int .i64 r ∧ Below w.heap.size w wr ∧ Bo wr w.heap.size (rounds skip bs (h0 kn) r)) (fun i _ => n + 1 - (intOf i).toNat)
      case atStart => exact ⟨0, by omega, rfl, hb, HB0.out⟩
      case round =>
        clear hb HB0
        obtain ⟨r, hr, rfl, hb, hB⟩ := hrel
        by_cases hrl : r ≤ n
        · have hri : (r : Int) ≤ (n : Int) := by omega
          obtain ⟨h, hh⟩ : ∃ h, rounds skip bs (h0 kn) r = h := ⟨_, rfl⟩
          have HRD : RowKit.Hid (passB skip bs h = rounds skip bs (h0 kn) (r + 1)) := Lib.hid (by rw [← hh]; rfl)
          rw [hh] at hB
          clear hh
          have HB1 := Lib.hid hB
          clear hB
          go_wp2_with fail
          go_loopw [10] (fun i wr => ∃ k : Nat, k ≤ n ∧ i = .int .i64 k ∧ Below w.heap.size w wr ∧ Bo wr w.heap.size (passB skip (bs.take k) h)) (fun i _ => n - (intOf i).toNat)
          case atStart => exact ⟨0, by omega, rfl, hb, HB1.out⟩
          case round =>
            clear hb HB1
            obtain ⟨k, hk, rfl, hb, hB⟩ := hrel
            by_cases hlt : k < n
            · have hki : (k : Int) < (n : Int) := by omega
              have HP := Lib.hid (pass_take (skip := skip) (h := h) (bs := bs) (k := k) (by omega))
              have HX := Lib.hid (sec_box HV.out (k := k) (by omega))
              have hx1 := sec_len1 HV.out (k := k) (by omega)
              obtain ⟨bx, hbx⟩ : ∃ p, bs.getD k (0, []) = p := ⟨_, rfl⟩
              rw [hbx] at HP HX hx1
              obtain ⟨hk1, hk2⟩ := HX.out.1
              obtain ⟨K, hK⟩ : ∃ K : Nat, bx.1 = (K : Int) := ⟨bx.1.toNat, by omega⟩
              have hK21 : K < 21 := by omega
              have hK21i : (K : Int) < 21 := by omega
              have hKK := Lib.hid hK
              have hBX := Lib.hid hbx
              obtain ⟨h1, hh1⟩ : ∃ h1, passB skip (bs.take k) h = h1 := ⟨_, rfl⟩
              rw [hh1] at HP hB
              have hx4 := HX.out.2.1
              have HB2 := Lib.hid hB
              clear hK hbx hh1 hk1 hk2 hB
              cases hkey : h1 (K : Int)
              · obtain ⟨b, off, a', c', rfl, hB', x0, x1, hc', hin⟩ := (HN.out.below hb).at hlt
                rw [hBX.out] at x0 x1 hc' hin
                rw [hKK.out] at x0
                have y0 := HB2.out.cell hK21
                rw [hkey] at y0
                have HO := Lib.hid (open_not (skip := skip) (b := bx) (h := h1) (by rw [hKK.out]; exact hkey))
                have HKY := Lib.hid hkey
                clear hin hkey
                go_wp2_with fail
                go_loopw [11] (fun i wr => i = .int .i64 0 ∧ Below w.heap.size w wr ∧ Bo wr w.heap.size h1) (fun _ _ => 0)
                case atStart => exact ⟨rfl, hb, HB2.out⟩
                case round =>
                  clear hb x0 x1 y0
                  obtain ⟨rfl, hb, hB⟩ := hrel
                  obtain ⟨b2, off2, a2, c2, e2, hB', x0, x1, hc', hin⟩ := (HN.out.below hb).at hlt
                  simp only [Option.some.injEq, Addr.mk.injEq, and_true] at e2
                  obtain ⟨rfl, rfl⟩ := e2
                  rw [hBX.out] at x0 x1 hc' hin
                  rw [hKK.out] at x0
                  have y0 := hB.cell hK21
                  rw [HKY.out] at y0
                  have HY := Lib.hid hB
                  have hl0 : (0 : Int) < (bx.2.length : Int) := by omega
                  clear hin hB
                  go_wp2_with fail
                  go_roundw
                  case rel => exact ⟨k + 1, by omega, by go_num, hb, by rw [HP.out, HO.out]; exact HY.out⟩
                  case measure => simp [intOf]; omega
              · by_cases hsk : (K : Int) = skip
                · have hsk' : ((K : Int) != skip) = false := by simp [hsk]
                  have HO := Lib.hid (open_skip (skip := skip) (b := bx) (h := h1) (by rw [hKK.out]; exact hsk))
                  clear hsk
                  obtain ⟨b, off, a', c', rfl, hB', x0, x1, hc', hin⟩ := (HN.out.below hb).at hlt
                  rw [hBX.out] at x0 x1 hc' hin
                  rw [hKK.out] at x0
                  have y0 := HB2.out.cell hK21
                  rw [hkey] at y0
                  clear hin
                  go_wp2_with fail
                  go_loopw [11] (fun i wr => i = .int .i64 0 ∧ Below w.heap.size w wr ∧ Bo wr w.heap.size h1) (fun _ _ => 0)
                  case atStart => exact ⟨rfl, hb, HB2.out⟩
                  case round =>
                    clear hb x0 x1 y0
                    obtain ⟨rfl, hb, hB⟩ := hrel
                    obtain ⟨b2, off2, a2, c2, e2, hB', x0, x1, hc', hin⟩ := (HN.out.below hb).at hlt
                    simp only [Option.some.injEq, Addr.mk.injEq, and_true] at e2
                    obtain ⟨rfl, rfl⟩ := e2
                    rw [hBX.out] at x0 x1 hc' hin
                    rw [hKK.out] at x0
                    have y0 := hB.cell hK21
                    rw [hkey] at y0
                    have HY := Lib.hid hB
                    have hl0 : (0 : Int) < (bx.2.length : Int) := by omega
                    clear hin hB
                    go_wp2_with fail
                    go_roundw
                    case rel => exact ⟨k + 1, by omega, by go_num, hb, by rw [HP.out, HO.out]; exact HY.out⟩
                    case measure => simp [intOf]; omega
                · have hsk' : ((K : Int) != skip) = true := by simp [hsk]
                  have HO := Lib.hid (open_yes (skip := skip) (b := bx) (h := h1) (by rw [hKK.out]; exact hkey) (by rw [hKK.out]; exact hsk))
                  clear hsk
                  obtain ⟨b, off, a', c', rfl, hB', x0, x1, hc', hin⟩ := (HN.out.below hb).at hlt
                  rw [hBX.out] at x0 x1 hc' hin
                  rw [hKK.out] at x0
                  have y0 := HB2.out.cell hK21
                  rw [hkey] at y0
                  have HKY := Lib.hid hkey
                  clear hin hkey
                  go_wp2_with fail
                  go_loopw [11] (fun i wr => ∃ j : Nat, j ≤ bx.2.length ∧ i = .int .i64 j ∧ Below w.heap.size w wr ∧ Bo wr w.heap.size (addA h1 (bx.2.take j))) (fun i _ => bx.2.length - (intOf i).toNat)
                  case atStart => exact ⟨0, by omega, rfl, hb, by rw [List.take_zero, addA_nil]; exact HB2.out⟩
                  case round =>
                    clear hb x0 x1 y0
                    obtain ⟨j, hj, rfl, hb, hB⟩ := hrel
                    obtain ⟨b2, off2, a2, c2, e2, hB', x0, x1, hc', hin⟩ := (HN.out.below hb).at hlt
                    simp only [Option.some.injEq, Addr.mk.injEq, and_true] at e2
                    obtain ⟨rfl, rfl⟩ := e2
                    rw [hBX.out] at x0 x1 hc' hin
                    rw [hKK.out] at x0
                    have y0 := hB.cell hK21
                    rw [sub_add h1 _ _ HKY.out] at y0
                    by_cases hjl : j < bx.2.length
                    · have hji : (j : Int) < (bx.2.length : Int) := by omega
                      obtain ⟨b3, off3, rfl, hB3, hc3⟩ := is_at hin hjl
                      have z := hc3 j hjl
                      have hp1 := HX.out.2.2 j hjl
                      have HU := Lib.hid (addA_take h1 hjl)
                      obtain ⟨P, hp⟩ : ∃ P : Nat, bx.2.getD j 0 = (P : Int) := ⟨(bx.2.getD j 0).toNat, by omega⟩
                      rw [hp] at z hp1 HU
                      have hP : P < 21 := by omega
                      have hPi : (P : Int) < 21 := by omega
                      have y1 := hB.cell hP
                      have y2 := hB.free P
                      have q := hB.lt
                      have HQ := Lib.hid (hB.set hP)
                      rw [← HU.out] at HQ
                      clear hc3 hp hp1 hB hin
                      go_wp2_with fail
                      go_roundw
                      case rel => exact ⟨j + 1, by omega, by go_num, Below.setCell hb (by simp) _, HQ.out⟩
                      case measure => simp [intOf]; omega
                    · obtain rfl : j = bx.2.length := by omega
                      have HU := Lib.hid hB
                      rw [List.take_length, ← HO.out, ← HP.out] at HU
                      clear hB hin
                      go_wp2_with fail
                      go_roundw
                      case rel => exact ⟨k + 1, by omega, by go_num, hb, HU.out⟩
                      case measure => simp [intOf]; omega
            · obtain rfl : k = n := by omega
              have HB3 := Lib.hid hB
              rw [take_all (by omega), HRD.out] at HB3
              clear hB
              go_wp2_with fail
              go_roundw
              case rel => exact ⟨r + 1, by omega, by go_num, hb, HB3.out⟩
              case measure => simp [intOf]; omega
        · obtain rfl : r = n + 1 := by omega
          have HB1 := Lib.hid hB
          rw [← hnl] at HB1
          have hri : ¬ ((n + 1 : Nat) : Int) ≤ (n : Int) := by omega
          clear hB
          go_wp2_with fail
          go_ret
          exact ⟨_, rfl, Nat.le_refl _, hb, HB1.out⟩
end Go.Proofs.Ytdnkopnhpffcdaa
