/- Valid boxes and known atoms. -/
import Derived.Test.YtdnkopnhpffcdaaVe
namespace Go.Proofs.Ytdnkopnhpffcdaa
open Go.RowKit
set_option linter.unusedVariables false

theorem box_eq (b : Int × List Int) : boxOk b = (atomOk b.1 && inB (b.2.length : Int) 1 4 && b.2.all atomOk) := by
  unfold boxOk inB
  congr 2
  rw [Bool.eq_iff_iff]
  simp only [Bool.and_eq_true, decide_eq_true_eq]
  omega
theorem boxes_no {bs : BX} {k : Nat} (hk : k < bs.length) (h : boxOk (bs.getD k (0, [])) = false) : boxesOk bs = false := by
  unfold boxesOk; rw [all_no hk h, Bool.and_false]
theorem boxes_all {bs : BX} (h : ∀ j, j < bs.length → boxOk (bs.getD j (0, [])) = true) : boxesOk bs = decide (bs.length ≤ 10) := by
  unfold boxesOk; rw [all_yes h, Bool.and_true]

set_option maxHeartbeats 2000000 in
theorem bvalid_impl (a : Option Addr) (n cap : Nat) (bs : BX) (w : World) (HB : Ns 1 inG w w.heap.size a n bs) :
    Calls Try.prog 54 #[.slice a n cap] w fun e w' => e = .returned (.bool (boxesOk bs)) ∧ Below w.heap.size w w' := by
  have hnl := HB.length
  have hn := HB.len
  by_cases h10 : 10 < n
  · have h10i : (10 : Int) < (n : Int) := by omega
    have G : RowKit.Hid (boxesOk bs = false) := Lib.hid (by unfold boxesOk; rw [decide_eq_false (by omega)]; rfl)
    clear HB
    go_enter Try.func54, Try.ntmps54
    go_wp2_with fail
    go_ret
    rw [G.out]
    exact ⟨rfl, Below.refl _ _⟩
  have h10i : ¬ (10 : Int) < (n : Int) := by omega
  have HN := Lib.hid HB
  clear HB
  go_enter Try.func54, Try.ntmps54
  go_wp2_with fail
  go_loopw [10] (fun i wr => ∃ k : Nat, k ≤ n ∧ i = .int .i64 k ∧ (∀ j, j < k → boxOk (bs.getD j (0, [])) = true) ∧ Below w.heap.size w wr) (fun i _ => n - (intOf i).toNat)
  case atStart => exact ⟨0, by omega, rfl, fun j hj => by omega, Below.refl _ _⟩
  case round =>
    obtain ⟨k, hk, rfl, hall, hb⟩ := hrel
    by_cases hlt : k < n
    · have hki : (k : Int) < (n : Int) := by omega
      obtain ⟨b, off, a', c', rfl, hB, x0, x1, hc', hin⟩ := (HN.out.below hb).at hlt
      have HBE := Lib.hid (box_eq (bs.getD k (0, [])))
      have HA := Lib.hid hall
      obtain ⟨bx, hbx⟩ : ∃ p, bs.getD k (0, []) = p := ⟨_, rfl⟩
      rw [hbx] at x0 x1 hc' hin HBE
      have HX := Lib.hid hbx
      have q := World.block_lt_of_cell? _ _ x0
      have K1 := Blk.new wr #[.int .i64 bx.1, .slice a' bx.2.length c'] 33
      have hb1 := bpush hb (Obj.cells #[.int .i64 bx.1, .slice a' bx.2.length c'] 33)
      have HI := Lib.hid ((hin.below ((bpush (Below.refl wr.heap.size wr) (Obj.cells #[.int .i64 bx.1, .slice a' bx.2.length c'] 33)).mono hb.size)).mono hb1.size)
      clear hbx hin hall
      obtain ⟨b1, hb1'⟩ : ∃ x, atomOk bx.1 = x := ⟨_, rfl⟩
      obtain ⟨b2, hb2'⟩ : ∃ x, inB (bx.2.length : Int) 1 4 = x := ⟨_, rfl⟩
      obtain ⟨b3, hb3'⟩ : ∃ x, bx.2.all atomOk = x := ⟨_, rfl⟩
      have H1 := Lib.hid hb1'
      have H2 := Lib.hid hb2'
      have H3 := Lib.hid hb3'
      rw [hb1', hb2', hb3'] at HBE
      clear hb1' hb2' hb3'
      go_wp2_with fail
      refine (atom_impl bx.1 _).mono ?_
      rintro e w' ⟨rfl, rfl⟩
      rw [H1.out]
      cases b1
      · have G := Lib.hid (boxes_no (hnl ▸ hlt) (by rw [HX.out]; exact HBE.out))
        go_wp2_with fail
        go_ret
        rw [G.out]
        exact ⟨rfl, hb1⟩
      · go_wp2_with fail
        refine (within_c _ _ _ _).mono ?_
        rintro e w' ⟨rfl, rfl⟩
        rw [H2.out]
        cases b2
        · have G := Lib.hid (boxes_no (hnl ▸ hlt) (by rw [HX.out]; exact HBE.out))
          go_wp2_with fail
          go_ret
          rw [G.out]
          exact ⟨rfl, hb1⟩
        · go_wp2_with fail
          refine (areAtoms_c _ _ _ _ _ rfl HI.out).mono ?_
          rintro e w' ⟨rfl, rfl⟩
          rw [H3.out]
          cases b3
          · have G := Lib.hid (boxes_no (hnl ▸ hlt) (by rw [HX.out]; exact HBE.out))
            go_wp2_with fail
            go_ret
            rw [G.out]
            exact ⟨rfl, hb1⟩
          · have G := Lib.hid (all_step (f := fun j => boxOk (bs.getD j (0, []))) HA.out (by show boxOk (bs.getD k (0, [])) = true; rw [HX.out]; exact HBE.out))
            go_wp2_with fail
            go_roundw
            case rel => exact ⟨k + 1, by omega, by go_num, G.out, hb1⟩
            case measure => simp [intOf]; omega
    · obtain rfl : k = n := by omega
      have G := Lib.hid ((boxes_all (by rw [hnl]; exact hall)).trans (decide_eq_true (show bs.length ≤ 10 by omega)))
      clear hall
      go_wp2_with fail
      go_ret
      rw [G.out]
      exact ⟨rfl, hb⟩

set_option maxHeartbeats 2000000 in
theorem bvalid_spec (a : Option Addr) (n cap : Nat) (bs : BX) (w : World) (HB : Ns 1 inG w w.heap.size a n bs) :
    Calls Try.prog 18 #[.slice a n cap] w fun e w' => e = .returned (.bool (boxesOk bs)) ∧ w = w' := by
  have hnl := HB.length
  have hn := HB.len
  have HN := Lib.hid HB
  clear HB
  go_enter Try.func18, Try.ntmps18
  go_wp2_with fail
  go_loop [3] (fun i => ∃ k : Nat, k ≤ n ∧ i = .int .i64 k ∧ (∀ j, j < k → boxOk (bs.getD j (0, [])) = true)) (fun i => n - (intOf i).toNat)
  case atStart => exact ⟨0, by omega, rfl, fun j hj => by omega⟩
  case round =>
    obtain ⟨k, hk, rfl, hall⟩ := hrel
    by_cases hlt : k < n
    · have hki : (k : Int) < (n : Int) := by omega
      obtain ⟨b, off, a', c', rfl, hB, x0, x1, hc', hin⟩ := HN.out.at hlt
      have HBE := Lib.hid (box_eq (bs.getD k (0, [])))
      have HA := Lib.hid hall
      obtain ⟨bx, hbx⟩ : ∃ p, bs.getD k (0, []) = p := ⟨_, rfl⟩
      rw [hbx] at x0 x1 hc' hin HBE
      have HX := Lib.hid hbx
      have HI := Lib.hid hin
      have hx4 := hin.len
      clear hbx hin hall
      obtain ⟨b1, hb1'⟩ : ∃ x, atomOk bx.1 = x := ⟨_, rfl⟩
      obtain ⟨b2, hb2'⟩ : ∃ x, inB (bx.2.length : Int) 1 4 = x := ⟨_, rfl⟩
      have H1 := Lib.hid hb1'
      have H2 := Lib.hid hb2'
      rw [hb1', hb2'] at HBE
      clear hb1' hb2'
      go_wp2_with fail
      refine (atom_spec bx.1 _).mono ?_
      rintro e w' ⟨rfl, rfl⟩
      rw [H1.out]
      cases b1
      · have G := Lib.hid (boxes_no (hnl ▸ hlt) (by rw [HX.out]; exact HBE.out))
        go_wp2_with fail
        go_ret
        rw [G.out]
        exact ⟨rfl, rfl⟩
      · go_wp2_with fail
        refine (l6In_c _ _ _ _).mono ?_
        rintro e w' ⟨rfl, rfl⟩
        rw [H2.out]
        cases b2
        · have G := Lib.hid (boxes_no (hnl ▸ hlt) (by rw [HX.out]; exact HBE.out))
          go_wp2_with fail
          go_ret
          rw [G.out]
          exact ⟨rfl, rfl⟩
        · go_wp2_with fail
          go_loop [4] (fun i => ∃ j : Nat, j ≤ bx.2.length ∧ i = .int .i64 j ∧ (∀ i, i < j → atomOk (bx.2.getD i 0) = true)) (fun i => bx.2.length - (intOf i).toNat)
          case atStart => exact ⟨0, by omega, rfl, fun j hj => by omega⟩
          case round =>
            obtain ⟨j, hj, rfl, hal⟩ := hrel
            by_cases hjl : j < bx.2.length
            · have hji : (j : Int) < (bx.2.length : Int) := by omega
              obtain ⟨b3, off3, rfl, hB3, hc3⟩ := is_at HI.out hjl
              have z := hc3 j hjl
              obtain ⟨p, hp⟩ : ∃ p, bx.2.getD j 0 = p := ⟨_, rfl⟩
              rw [hp] at z
              cases hat : atomOk p
              · have G2 := all_no (f := atomOk) (d := 0) hjl (by rw [hp]; exact hat)
                have G := Lib.hid (boxes_no (hnl ▸ hlt) (by rw [HX.out]; rw [HBE.out, G2]; rfl))
                clear hc3 hal hp G2
                go_wp2_with fail
                refine (atom_spec p _).mono ?_
                rintro e w' ⟨rfl, rfl⟩
                rw [hat]
                go_wp2_with fail
                go_ret
                rw [G.out]
                exact ⟨rfl, rfl⟩
              · have G := Lib.hid (all_step hal (by rw [hp]; exact hat))
                clear hc3 hal hp
                go_wp2_with fail
                refine (atom_spec p _).mono ?_
                rintro e w' ⟨rfl, rfl⟩
                rw [hat]
                go_wp2_with fail
                go_roundw
                case rel => exact ⟨j + 1, by omega, by go_num, G.out⟩
                case measure => simp [intOf]; omega
            · obtain rfl : j = bx.2.length := by omega
              have G2 := all_yes (f := atomOk) (d := 0) hal
              have G := Lib.hid (all_step (f := fun j => boxOk (bs.getD j (0, []))) HA.out (by show boxOk (bs.getD k (0, [])) = true; rw [HX.out, HBE.out, G2]; rfl))
              clear hal G2
              go_wp2_with fail
              go_roundw
              case rel => exact ⟨k + 1, by omega, by go_num, G.out⟩
              case measure => simp [intOf]; omega
    · obtain rfl : k = n := by omega
      have G := Lib.hid (boxes_all (by rw [hnl]; exact hall))
      clear hall
      by_cases h10 : k ≤ 10
      · have h10' : (k : Int) ≤ 10 := by omega
        go_wp2_with fail
        go_ret
        rw [G.out, decide_eq_true (by omega)]
        exact ⟨rfl, rfl⟩
      · have h10' : ¬ (k : Int) ≤ 10 := by omega
        go_wp2_with fail
        go_ret
        rw [G.out, decide_eq_false (by omega)]
        exact ⟨rfl, rfl⟩

theorem sec_c (a ak : Option Addr) (n cap nk ck : Nat) (bs : BX) (kn : List Int) (w : World) (HB : Ns 1 inG w w.heap.size a n bs) (hl : kn.length = nk) (S : Sl 1 w w.heap.size ak nk (inG kn)) :
    Calls Try.prog 40 #[.slice a n cap, .slice ak nk ck] w fun e w' => e = .returned (.bool (secOk bs kn)) ∧ Below w.heap.size w w' := by
  have HC := Lib.hid (bvalid_impl a n cap bs w HB)
  have hn := S.len
  have HS := Lib.hid S
  clear HB S
  obtain ⟨b1, h1⟩ : ∃ x, boxesOk bs = x := ⟨_, rfl⟩
  have E : RowKit.Hid (secOk bs kn = (b1 && (decide (nk ≤ 20) && kn.all atomOk))) := Lib.hid (by unfold secOk knownOk; rw [h1, hl])
  rw [h1] at HC
  clear h1
  go_enter Try.func40, Try.ntmps40
  go_wp2_with fail
  refine HC.out.mono ?_
  rintro e w1 ⟨rfl, hb1⟩
  cases b1
  · go_wp2_with fail
    go_ret
    rw [E.out]
    exact ⟨rfl, hb1⟩
  · by_cases h20 : nk ≤ 20
    · have h20' : (nk : Int) ≤ 20 := by omega
      rw [decide_eq_true h20] at E
      have HA := Lib.hid (areAtoms_c ak nk ck kn w1 hl ((HS.out.below hb1).mono hb1.size))
      obtain ⟨b3, h3⟩ : ∃ x, kn.all atomOk = x := ⟨_, rfl⟩
      rw [h3] at E HA
      clear h3 h20
      go_wp2_with fail
      refine HA.out.mono ?_
      rintro e w2 ⟨rfl, rfl⟩
      cases b3
      all_goals
        go_wp2_with fail
        go_ret
        rw [E.out]
        exact ⟨rfl, hb1⟩
    · have h20' : ¬ (nk : Int) ≤ 20 := by omega
      rw [decide_eq_false h20] at E
      clear h20
      go_wp2_with fail
      go_ret
      rw [E.out]
      exact ⟨rfl, hb1⟩
end Go.Proofs.Ytdnkopnhpffcdaa
