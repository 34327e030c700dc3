/- The program's sets of atoms. -/
import Derived.Test.YtdnkopnhpffcdaaVd
import Derived.Laws.Shifts
import Derived.Laws.ShiftsVarLaws
namespace Go.Proofs.Ytdnkopnhpffcdaa
open Go.RowKit
set_option linter.unusedVariables false

theorem bit_int {s k : Nat} (hs : s < 2097152) : (bits BinOp.and IntKind.i64 ((s : Int) / 2 ^ k) 1 == 1) = s.testBit k := by
  have e1 : (s : Int) / 2 ^ k = ((s / 2 ^ k : Nat) : Int) := by simp
  have e2 : s / 2 ^ k < 9223372036854775808 := Nat.lt_of_le_of_lt (Nat.div_le_self _ _) (by omega)
  have e3 : bits BinOp.and IntKind.i64 ((s / 2 ^ k : Nat) : Int) 1 = ((s / 2 ^ k &&& 1 : Nat) : Int) := i64_and_nat _ 1 e2 (by omega)
  rw [e1, e3, Nat.and_one_is_mod, Nat.testBit_eq_decide_div_mod_eq, Bool.eq_iff_iff]
  simp only [beq_iff_eq, decide_eq_true_eq]
  omega
theorem or_int {s : Nat} {a : Int} (hs : s < 2097152) (ha : 1 ≤ a ∧ a ≤ 20) : bits BinOp.or IntKind.i64 (s : Int) (wrap64 (2 ^ a.toNat)) = ((s ||| 2 ^ a.toNat : Nat) : Int) := by
  have e1 : ((2 : Int) ^ a.toNat) = ((2 ^ a.toNat : Nat) : Int) := by simp
  have e2 : 2 ^ a.toNat ≤ 2 ^ 20 := Nat.pow_le_pow_right (by omega) (by omega)
  rw [e1]
  obtain ⟨X, hX⟩ : ∃ X, 2 ^ a.toNat = X := ⟨_, rfl⟩
  rw [hX] at e2 ⊢
  rw [IntWalk.wrap64_in _ (by omega), i64_or_nat _ _ (by omega) (by omega)]
theorem getD_mem {α : Type} {l : List α} {d : α} {k : Nat} (hk : k < l.length) : l.getD k d ∈ l := by
  rw [List.getD_eq_getElem?_getD, List.getElem?_eq_getElem hk]; exact List.getElem_mem hk
theorem has_c (s : Nat) (h : AS) (x : Int) (w : World) (r : Rep s h) :
    Calls Try.prog 50 #[.int .i64 (s : Int), .int .i64 x] w fun e w' => e = .returned (.bool (h x)) ∧ w = w' := by
  cases hx : atomOk x
  · have E : h x = false := by
      cases e : h x
      · rfl
      · rw [atomOk_iff.2 (r.2.2 x e)] at hx; cases hx
    rw [E]
    clear E r
    go_enter Try.func50, Try.ntmps50
    go_wp2_with fail
    refine (atom_impl x _).mono ?_
    rintro e w' ⟨rfl, rfl⟩
    rw [hx]
    go_wp2_with fail
    go_ret
    exact ⟨rfl, rfl⟩
  · obtain ⟨h1, h2⟩ := atomOk_iff.1 hx
    have hb := r.bound
    have HR := Lib.hid r
    clear r
    go_enter Try.func50, Try.ntmps50
    go_wp2_with fail
    refine (atom_impl x _).mono ?_
    rintro e w' ⟨rfl, rfl⟩
    rw [hx]
    go_wp2_with fail
    go_ret
    obtain ⟨X, rfl⟩ := Int.eq_ofNat_of_zero_le (show 0 ≤ x by omega)
    refine ⟨?_, rfl⟩
    rw [← HR.out.2.1 X (by omega), ← bit_int hb]
    rfl
/-- Valid boxes and known atoms, read one by one. -/
theorem sec_known {bs : BX} {kn : List Int} (h : secOk bs kn = true) {k : Nat} (hk : k < kn.length) : 1 ≤ kn.getD k 0 ∧ kn.getD k 0 ≤ 20 := by
  unfold secOk knownOk at h
  simp only [Bool.and_eq_true, List.all_eq_true] at h
  exact atomOk_iff.1 (h.2.2 _ (getD_mem hk))
theorem sec_box {bs : BX} {kn : List Int} (h : secOk bs kn = true) {k : Nat} (hk : k < bs.length) : (1 ≤ (bs.getD k (0, [])).1 ∧ (bs.getD k (0, [])).1 ≤ 20) ∧ (bs.getD k (0, [])).2.length ≤ 4 ∧ ∀ j, j < (bs.getD k (0, [])).2.length → 1 ≤ (bs.getD k (0, [])).2.getD j 0 ∧ (bs.getD k (0, [])).2.getD j 0 ≤ 20 := by
  unfold secOk boxesOk at h
  simp only [Bool.and_eq_true, List.all_eq_true] at h
  have hm : bs.getD k (0, []) ∈ bs := getD_mem hk
  have hb := h.1.2 _ hm
  unfold boxOk at hb
  simp only [Bool.and_eq_true, List.all_eq_true, decide_eq_true_eq] at hb
  exact ⟨atomOk_iff.1 hb.1.1, hb.1.2.2, fun j hj => atomOk_iff.1 (hb.2 _ (getD_mem hj))⟩
theorem sec_len {bs : BX} {kn : List Int} (h : secOk bs kn = true) : bs.length ≤ 10 ∧ kn.length ≤ 20 := by
  unfold secOk boxesOk knownOk at h
  simp only [Bool.and_eq_true, decide_eq_true_eq] at h
  exact ⟨h.1.1, h.2.1⟩
theorem open_skip {skip : Int} {h : AS} {b : Int × List Int} (e : b.1 = skip) : openB skip h b = h := by unfold openB; rw [decide_eq_true e]; simp
theorem open_not {skip : Int} {h : AS} {b : Int × List Int} (e : h b.1 = false) : openB skip h b = h := by unfold openB; rw [e]; simp
theorem open_yes {skip : Int} {h : AS} {b : Int × List Int} (e : h b.1 = true) (n : ¬ b.1 = skip) : openB skip h b = addA h b.2 := by unfold openB; rw [e, decide_eq_false n]; simp
def flagOf (v : Value) : Nat := match v with
  | .bool true => 1
  | _ => 0

set_option maxHeartbeats 4000000 in
theorem derive_c (a ak : Option Addr) (n cap nk ck : Nat) (bs : BX) (kn : List Int) (skip : Int) (w : World) (HB : Ns 1 inG w w.heap.size a n bs) (hl : kn.length = nk) (S : Sl 1 w w.heap.size ak nk (inG kn)) (hv : secOk bs kn = true) :
    Calls Try.prog 41 #[.slice a n cap, .slice ak nk ck, .int .i64 skip] w fun e w' => ∃ s : Nat, Rep s (fin bs kn skip) ∧ e = .returned (.int .i64 (s : Int)) ∧ Below w.heap.size w w' := by
  have hnl := HB.length
  have hln := sec_len hv
  have HV := Lib.hid hv
  have HN := Lib.hid HB
  have HS := Lib.hid S
  clear hv HB S
  go_enter Try.func41, Try.ntmps41
  go_wp2_with fail
  go_loop [7, 18] (fun o i => ∃ (k s : Nat), k ≤ nk ∧ i = .int .i64 k ∧ o = .int .i64 (s : Int) ∧ Rep s (h0 (kn.take k))) (fun _ i => nk - (intOf i).toNat)
  case atStart => exact ⟨0, 0, by omega, rfl, rfl, rep_zero⟩
  case round =>
    obtain ⟨k, s, hk, rfl, rfl, hr⟩ := hrel
    by_cases hlt : k < nk
    · have hki : (k : Int) < (nk : Int) := by omega
      obtain ⟨b, off, rfl, hB, hc⟩ := is_at HS.out hlt
      have x := hc k hlt
      have hp1 := sec_known HV.out (k := k) (by omega)
      have hs := hr.bound
      have HR := Lib.hid (h0_take (l := kn) (k := k) (by omega))
      obtain ⟨p, hp⟩ : ∃ p, kn.getD k 0 = p := ⟨_, rfl⟩
      rw [hp] at x hp1 HR
      have HO := Lib.hid (or_int hs hp1)
      have HQ := Lib.hid (rep_or hr hp1)
      rw [← HR.out] at HQ
      obtain ⟨hp2, hp3⟩ := hp1
      clear hc hp hr
      go_wp2_with fail
      go_roundw
      case rel => exact ⟨k + 1, s ||| 2 ^ p.toNat, by omega, by go_num, by rw [HO.out], HQ.out⟩
      case measure => simp [intOf]; omega
    · obtain rfl : k = nk := by omega
      have hs := hr.bound
      have HR := Lib.hid hr
      rw [show kn.take k = kn from List.take_of_length_le (by omega)] at HR
      clear hr
      go_wp2_with fail
      go_loopw [7, 10] (fun o c wr => ∃ (s : Nat) (h : AS) (ch : Bool), o = .int .i64 (s : Int) ∧ c = .bool ch ∧ Rep s h ∧ Good bs kn skip h ∧ (ch = false → passB skip bs h = h) ∧ Below w.heap.size w wr) (fun o c _ => 2 * lack (intOf o).toNat + flagOf c)
      case atStart => exact ⟨s, h0 kn, true, rfl, rfl, HR.out, good_zero bs kn skip, by simp, Below.refl _ _⟩
      case round =>
        clear HR hs
        obtain ⟨s, h, ch, rfl, rfl, hr, hg, hf, hb⟩ := hrel
        have hs := hr.bound
        have HR := Lib.hid hr
        have HG := Lib.hid hg
        have HF := Lib.hid hf
        clear hr hg hf
        cases ch
        · go_wp2_with fail
          go_ret
          exact ⟨s, good_fin HG.out (by first | exact HF.out rfl | exact HF.out trivial) ▸ HR.out, rfl, hb⟩
        · go_wp2_with fail
          go_loopw [7, 31] (fun o i wr => ∃ (k t : Nat), k ≤ n ∧ i = .int .i64 k ∧ o = .int .i64 (t : Int) ∧ Rep t (passB skip (bs.take k) h) ∧ Below w.heap.size w wr) (fun _ i _ => n - (intOf i).toNat)
          case atStart => exact ⟨0, s, by omega, rfl, rfl, HR.out, hb⟩
          case round =>
            clear hb
            obtain ⟨k, t, hk, rfl, rfl, hr, hb⟩ := hrel
            have ht := hr.bound
            by_cases hlt : k < n
            · have hki : (k : Int) < (n : Int) := by omega
              obtain ⟨b, off, a', c', rfl, hB, x0, x1, hc', hin⟩ := (HN.out.below hb).at hlt
              have HP := Lib.hid (pass_take (skip := skip) (h := h) (bs := bs) (k := k) (by omega))
              have HX := Lib.hid (sec_box HV.out (k := k) (by omega))
              obtain ⟨bx, hbx⟩ : ∃ p, bs.getD k (0, []) = p := ⟨_, rfl⟩
              rw [hbx] at x0 x1 hc' hin HP HX
              have HQ := Lib.hid hr
              have HI := Lib.hid hin
              have q := World.block_lt_of_cell? _ _ x0
              obtain ⟨h1, hh1⟩ : ∃ h1, passB skip (bs.take k) h = h1 := ⟨_, rfl⟩
              rw [hh1] at HP HQ
              have K1 := Blk.new wr #[.int .i64 bx.1, .slice a' bx.2.length c'] 33
              have hb1 := bpush hb (Obj.cells #[.int .i64 bx.1, .slice a' bx.2.length c'] 33)
              clear hbx hr hin hh1
              by_cases hsk : bx.1 = skip
              · have hsk' : (bx.1 == skip) = true := by simp [hsk]
                have HO := Lib.hid (open_skip (h := h1) hsk)
                clear hsk
                go_wp2_with fail
                go_roundw
                case rel => exact ⟨k + 1, t, by omega, by go_num, rfl, by rw [HP.out, HO.out]; exact HQ.out, hb1⟩
                case measure => simp [intOf]; omega
              · have hsk' : (bx.1 == skip) = false := by simp [hsk]
                have HSK := Lib.hid hsk
                clear hsk
                have HH := Lib.hid (has_c t h1 bx.1 (wr.alloc (Obj.cells #[.int .i64 bx.1, .slice a' bx.2.length c'] 33)) HQ.out)
                cases hh : h1 bx.1
                · rw [hh] at HH
                  have HO := Lib.hid (open_not (skip := skip) hh)
                  clear hh
                  go_wp2_with fail
                  refine HH.out.mono ?_
                  rintro e w' ⟨rfl, rfl⟩
                  go_wp2_with fail
                  go_roundw
                  case rel => exact ⟨k + 1, t, by omega, by go_num, rfl, by rw [HP.out, HO.out]; exact HQ.out, hb1⟩
                  case measure => simp [intOf]; omega
                · rw [hh] at HH
                  have HO := Lib.hid (open_yes (skip := skip) hh HSK.out)
                  clear hh
                  go_wp2_with fail
                  refine HH.out.mono ?_
                  rintro e w' ⟨rfl, rfl⟩
                  obtain ⟨W1, hW1⟩ : ∃ x, x = wr.alloc (Obj.cells #[.int .i64 bx.1, .slice a' bx.2.length c'] 33) := ⟨_, rfl⟩
                  have y0 := K1.cell 0 rfl
                  have y1 := K1.cell 1 rfl
                  have HI1 := Lib.hid (HI.out.below ((bpush (Below.refl wr.heap.size wr) (Obj.cells #[.int .i64 bx.1, .slice a' bx.2.length c'] 33)).mono hb.size))
                  rw [← hW1] at K1 hb1 y0 y1 HI1 ⊢
                  clear hW1
                  go_wp2_with fail
                  go_loop [7, 49] (fun o i => ∃ (j u : Nat), j ≤ bx.2.length ∧ i = .int .i64 j ∧ o = .int .i64 (u : Int) ∧ Rep u (addA h1 (bx.2.take j))) (fun _ i => bx.2.length - (intOf i).toNat)
                  case atStart => exact ⟨0, t, by omega, rfl, rfl, by rw [List.take_zero, addA_nil]; exact HQ.out⟩
                  case round =>
                    obtain ⟨j, u, hj, rfl, rfl, hu⟩ := hrel
                    by_cases hjl : j < bx.2.length
                    · have hji : (j : Int) < (bx.2.length : Int) := by omega
                      obtain ⟨b2, off2, rfl, hB2, hc2⟩ := is_at HI1.out hjl
                      have z := hc2 j hjl
                      have hp1 := HX.out.2.2 j hjl
                      have hx4 := HX.out.2.1
                      have hub := hu.bound
                      have HU := Lib.hid (addA_take h1 hjl)
                      obtain ⟨p, hp⟩ : ∃ p, bx.2.getD j 0 = p := ⟨_, rfl⟩
                      rw [hp] at z hp1 HU
                      have HO2 := Lib.hid (or_int hub hp1)
                      have HQ2 := Lib.hid (rep_or hu hp1)
                      rw [← HU.out] at HQ2
                      obtain ⟨hp2, hp3⟩ := hp1
                      clear hc2 hp hu y0 y1 x0 x1
                      go_wp2_with fail
                      go_roundw
                      case rel => exact ⟨j + 1, u ||| 2 ^ p.toNat, by omega, by go_num, by rw [HO2.out], HQ2.out⟩
                      case measure => simp [intOf]; omega
                    · obtain rfl : j = bx.2.length := by omega
                      have HU := Lib.hid hu
                      rw [List.take_length, ← HO.out, ← HP.out] at HU
                      clear hu y0 y1 x0 x1
                      go_wp2_with fail
                      go_roundw
                      case rel => exact ⟨k + 1, u, by omega, by go_num, rfl, HU.out, hb1⟩
                      case measure => simp [intOf]; omega
            · obtain rfl : k = n := by omega
              rw [show bs.take k = bs from List.take_of_length_le (by omega)] at hr
              by_cases hst : t = s
              · have hst' : ((t : Int) != (s : Int)) = false := by simp [hst]
                have E := Lib.hid ((rep_eq hr HR.out).1 hst)
                have HT := Lib.hid hr
                clear hr hst
                go_wp2_with fail
                go_roundw
                case rel => exact ⟨t, h, false, rfl, rfl, E.out ▸ HT.out, HG.out, fun _ => E.out, hb⟩
                case measure =>
                  obtain rfl := (rep_eq (E.out ▸ HT.out) HR.out).2 rfl
                  simp [intOf, flagOf]
              · have hst' : ((t : Int) != (s : Int)) = true := by simp; omega
                have HL := Lib.hid (lack_lt HR.out hr (sub_pass skip bs h) (Ne.symm hst))
                have HT := Lib.hid hr
                clear hr hst
                go_wp2_with fail
                go_roundw
                case rel => exact ⟨t, passB skip bs h, true, rfl, rfl, HT.out, good_pass HG.out, by simp, hb⟩
                case measure =>
                  have hL := HL.out
                  simp [intOf, flagOf]; omega
end Go.Proofs.Ytdnkopnhpffcdaa
