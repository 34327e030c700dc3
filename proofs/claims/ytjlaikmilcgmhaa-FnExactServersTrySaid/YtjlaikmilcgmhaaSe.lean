/- A ticket presented to servers: the reference's way. -/
import Derived.Test.YtjlaikmilcgmhaaSd
import Derived.Test.YtjlaikmilcgmhaaGt
namespace Go.Proofs.Ytjlaikmilcgmhaa
open Go.RowKit
set_option linter.unusedVariables false
attribute [local go_sem ↓] Go.wp_at_zero Go.wp_at_succ

theorem sres_ok {ss : SV} {A : Int} {t : Int × Int} (h : sTryOk ss A t = true) : sRes ss A t = sPut ss A t ∧ sV ss A t = sAcc ss A t := by
  unfold sRes sV; rw [h]; exact ⟨rfl, rfl⟩
theorem sput_at {ss : SV} {i : Nat} {t : Int × Int} {nw : Int} {l : TL} (h : sTryOk ss i t = true) (he : (i : Int) = t.1 % (ss.length : Int)) (hx : ss.getD i (0, []) = (nw, l)) :
    (sPut ss i t).getD i (0, []) = (nw, accS nw l t) ∧ sAcc ss i t = accT nw l t := by
  obtain ⟨h1, h2, h3, h4⟩ := stry_t h
  have hi : i < ss.length := by omega
  have ea : sAcc ss i t = accT nw l t := by
    unfold sAcc; rw [decide_eq_true he, Int.toNat_natCast, hx]; rfl
  refine ⟨?_, ea⟩
  unfold sPut accS
  rw [ea, Int.toNat_natCast]
  cases g : accT nw l t
  · rw [if_neg (by simp), if_neg (by simp), hx]
  · rw [if_pos rfl, if_pos rfl, getD_set hi, if_pos rfl, hx]
theorem fail_of {ss : SV} {A : Int} {t : Int × Int} (h : sTryOk ss A t = false) : sRes ss A t = [] ∧ sV ss A t = false := sres_no h

set_option maxHeartbeats 16000000 in
theorem stry_spec (A : Int) (t : Int × Int) (a : Option Addr) (n cap : Nat) (ss : SV) (w : World) (HB : Ns 2 tkG w w.heap.size a n ss) :
    Calls Try.prog 9 #[.slice a n cap, .int .i64 A, .agg #[.int .i64 t.1, .int .i64 t.2]] w (STd w (sRes ss A t) (sV ss A t)) := by
  have hn := HB.len
  have hl := HB.length
  have HNr := Lib.hid HB.nr
  have hb0 := bpush (Below.refl w.heap.size w) (Obj.cells #[.int .i64 t.1, .int .i64 t.2] 30)
  have T0 := Blk.new w #[.int .i64 t.1, .int .i64 t.2] 30
  have HV0 := Lib.hid (servers_c a n cap ss (w.alloc (Obj.cells #[.int .i64 t.1, .int .i64 t.2] 30)) ((HNr.out.below hb0).mono hb0.size))
  cases b1 : srvOk ss
  · have hno : sTryOk ss A t = false := by unfold sTryOk; rw [b1]; simp
    obtain ⟨E1, E2⟩ := fail_of hno
    rw [E1, E2]
    clear HB
    go_enter Try.func9, Try.ntmps9
    go_wp2_with fail
    refine HV0.out.mono ?_
    rintro e w1 ⟨rfl, hb1⟩
    rw [b1]
    have hB1 := bstep hb0 hb1
    have T1 := T0.below hb1
    have t0 := T1.cell 0 rfl
    have t1 := T1.cell 1 rfl
    clear T0 hb0 hb1 HV0
    go_wp2_with fail
    refine bodyPost_ret (v := .tuple #[.slice (some ⟨w1.heap.size, 0, none⟩) 0 0, .bool false]) ?_ rfl ⟨some ⟨w1.heap.size, 0, none⟩, 0, rfl, ?_, snil⟩
    · simp only [results, Try.results9]
      go_simp
    · exact bpush hB1 _
  · cases b2 : tkOk t.1 t.2
    · have hno : sTryOk ss A t = false := by unfold sTryOk; rw [b2]; simp
      obtain ⟨E1, E2⟩ := fail_of hno
      rw [E1, E2]
      clear HB
      go_enter Try.func9, Try.ntmps9
      go_wp2_with fail
      refine HV0.out.mono ?_
      rintro e w1 ⟨rfl, hb1⟩
      rw [b1]
      have hB1 := bstep hb0 hb1
      have T1 := T0.below hb1
      have t0 := T1.cell 0 rfl
      have t1 := T1.cell 1 rfl
      clear T0 hb0 hb1 HV0
      go_wp2_with fail
      refine (isT_spec t.1 t.2 _).mono ?_
      rintro e w2 ⟨rfl, hb2⟩
      rw [b2]
      have hB2 := bstep hB1 hb2
      have T2 := T1.below hb2
      clear T1 t0 t1 hB1 hb2
      go_wp2_with fail
      refine bodyPost_ret (v := .tuple #[.slice (some ⟨w2.heap.size, 0, none⟩) 0 0, .bool false]) ?_ rfl ⟨some ⟨w2.heap.size, 0, none⟩, 0, rfl, ?_, snil⟩
      · simp only [results, Try.results9]
        go_simp
      · exact bpush hB2 _
    · cases b3 : inB A 0 ((n : Int) - 1)
      · have hno : sTryOk ss A t = false := by unfold sTryOk; rw [hl, b3]; simp
        obtain ⟨E1, E2⟩ := fail_of hno
        rw [E1, E2]
        clear HB
        go_enter Try.func9, Try.ntmps9
        go_wp2_with fail
        refine HV0.out.mono ?_
        rintro e w1 ⟨rfl, hb1⟩
        rw [b1]
        have hB1 := bstep hb0 hb1
        have T1 := T0.below hb1
        have t0 := T1.cell 0 rfl
        have t1 := T1.cell 1 rfl
        clear T0 hb0 hb1 HV0
        go_wp2_with fail
        refine (isT_spec t.1 t.2 _).mono ?_
        rintro e w2 ⟨rfl, hb2⟩
        rw [b2]
        have hB2 := bstep hB1 hb2
        have T2 := T1.below hb2
        clear T1 t0 t1 hB1 hb2
        go_wp2_with (go_at_call 31; refine (l6In_c _ _ _ _).mono ?_; rintro e w' ⟨rfl, rfl⟩; rw [b3])
        refine bodyPost_ret (v := .tuple #[.slice (some ⟨w2.heap.size, 0, none⟩) 0 0, .bool false]) ?_ rfl ⟨some ⟨w2.heap.size, 0, none⟩, 0, rfl, ?_, snil⟩
        · simp only [results, Try.results9]
          go_simp
        · exact bpush hB2 _
      · have hA' : 0 ≤ A ∧ A ≤ (n : Int) - 1 := by simpa [inB] using b3
        obtain ⟨hA0, hA1⟩ := hA'
        obtain ⟨i, rfl⟩ := Int.eq_ofNat_of_zero_le hA0
        have hok : sTryOk ss i t = true := stry_mk b1 b2 hA0 (by omega)
        obtain ⟨⟨hn1, hn4⟩, hval⟩ := srv_t b1
        rw [hl] at hn1 hn4 hval
        have E : homeF n t.1 t.2 = t.1 % (n : Int) := by unfold homeF; rw [if_pos ⟨inB_t (by omega), b2⟩]
        obtain ⟨R, hR⟩ : ∃ x, sRes ss i t = x := ⟨_, rfl⟩
        obtain ⟨V, hV⟩ : ∃ x, sV ss i t = x := ⟨_, rfl⟩
        rw [hR, hV]
        obtain ⟨H, hH⟩ : ∃ x, t.1 % (n : Int) = x := ⟨_, rfl⟩
        rw [hH] at E
        obtain ⟨E1, E2⟩ := sres_ok hok
        rw [hR] at E1
        rw [hV] at E2
        have hRl : R.length = n := by rw [E1, sput_len, hl]
        have HR := Lib.hid E1
        have HV := Lib.hid E2
        have HH := Lib.hid hH
        have HN := Lib.hid HB
        have HVA := Lib.hid hval
        have HOK := Lib.hid hok
        clear hR hV hH HB hval hok E1 E2
        obtain ⟨j0, hj0, gz0, gs0, gy0⟩ := info_parts infoRg
        have GI := Lib.hid hj0
        have GZ := Lib.hid gz0
        have GZ1 := Lib.hid gs0
        have GY := Lib.hid gy0
        clear hj0 gz0 gs0 gy0
        go_enter Try.func9, Try.ntmps9
        go_wp2_with fail
        refine HV0.out.mono ?_
        rintro e w1 ⟨rfl, hb1⟩
        rw [b1]
        have hB1 := bstep hb0 hb1
        have T1 := T0.below hb1
        have t0 := T1.cell 0 rfl
        have t1 := T1.cell 1 rfl
        clear T0 hb0 hb1 HV0
        go_wp2_with fail
        refine (isT_spec t.1 t.2 _).mono ?_
        rintro e w2 ⟨rfl, hb2⟩
        rw [b2]
        have hB2 := bstep hB1 hb2
        have T2 := T1.below hb2
        clear T1 t0 t1 hB1 hb2
        have hz2 : w.heap.size < w2.heap.size := T2.lt
        have T3 := T2.alloc (Obj.cells #[] 42)
        have hB3 := bpush hB2 (Obj.cells #[] 42)
        have own0 := own_srv (base := w2.heap.size) (Blk.new w2 #[] 42) (Nat.le_refl _)
        have HZ2 := w2.heap.size
        clear T2 hB2 HNr HZ2
        go_wp2_with (go_at_call 31; refine (l6In_c _ _ _ _).mono ?_; rintro e w' ⟨rfl, rfl⟩; rw [b3])
        go_loopw [8, 9, 10] (fun v d j wr => ∃ (k : Nat) (sl : SR), k ≤ n ∧ j = .int .i64 k ∧ d = .bool (decide (i < k) && V) ∧ sl.length = k ∧ srvs sl = R.take k ∧ (∀ t ∈ sl, t.2.1.length ≤ 8) ∧ w2.heap.size ≤ wr.heap.size ∧ Below w.heap.size w wr ∧ Blk wr w.heap.size #[.int .i64 t.1, .int .i64 t.2] 30 ∧ SvR wr w2.heap.size v sl) (fun _ _ j _ => n - (intOf j).toNat)
        case atStart => exact ⟨0, [], by omega, rfl, by simp, rfl, rfl, (fun t m => by cases m), by simp, hB3, T3, own0⟩
        case round =>
          clear T3 hB3 own0
          obtain ⟨k, sl, hk, rfl, rfl, hlk, hsv, hm8, hz, hbr, Tr, ownr⟩ := hrel
          have HSV := Lib.hid hsv
          have HM8 := Lib.hid hm8
          clear hsv hm8
          by_cases hlt : k < n
          · have hki : (k : Int) < (n : Int) := by omega
            obtain ⟨b, off, a2, c2, rfl, hB, x0, x1, hc2, hs⟩ := (HN.out.below hbr).at hlt
            obtain ⟨nw, l, hbx⟩ : ∃ nw l, ss.getD k (0, []) = (nw, l) := ⟨_, _, rfl⟩
            rw [hbx] at x0 x1 hc2 hs
            have hv := HVA.out k hlt
            rw [hbx] at hv
            simp only at x0 x1 hc2 hs hv
            obtain ⟨⟨h3, h4⟩, h5, h6, hsrt⟩ := regOk_iff.1 hv
            have HSR := Lib.hid hsrt
            have HBX := Lib.hid hbx
            have hs := hs.mono hbr.size
            have hbw : b < wr.heap.size := Nat.lt_of_lt_of_le hB hbr.size
            have HX := Lib.hid (fun (w' : World) (h : Below wr.heap.size wr w') => And.intro ((h.cell (p := ⟨b, off + k * 2, none⟩) hbw).trans x0) ((h.cell (p := ⟨b, off + k * 2 + 1, none⟩) hbw).trans x1))
            have HS := Lib.hid hs
            have h8 : l.length ≤ 8 := by omega
            have hn6 : 0 + l.length ≤ 1048576 := by omega
            have k0 := Below.refl wr.heap.size wr
            have kA0 := bpush k0 z0Reg
            have kB0 := bpush k0 (Obj.cells #[] 30)
            have kA := bdrew (bpush kA0 (Obj.cells #[] 30))
            have kB := bdrew (bpush kB0 z0Reg)
            have kC := bdrew kB0
            have kA0 := bdrew kA0
            have kB0 := bdrew kB0
            have EA := (Blk.new (wr.alloc z0Reg) #[] 30).drew
            have EB := ((Blk.new wr #[] 30).alloc z0Reg).drew
            have EC := (Blk.new wr #[] 30).drew
            have OA := ((Blk.new wr #[.int .i64 0, .slice none 0 0] 42).alloc (Obj.cells #[] 30)).drew
            have OB := (Blk.new (wr.alloc (Obj.cells #[] 30)) #[.int .i64 0, .slice none 0 0] 42).drew
            rw [World.size_alloc] at EA OB
            have SA := hs.below kA
            have SB := hs.below kB
            have SC := hs.below kC
            have ownA := own_made (base := wr.heap.size) EA (by omega)
            have ownB := own_made (base := wr.heap.size) EB (by omega)
            have ownC := own_made (base := wr.heap.size) EC (by omega)
            have sA := kA.size
            have sB := kB.size
            have sC := kC.size
            clear x0 x1 hs hsrt hbx h6 hv
            have x0 := (HX.out _ k0).1
            have x1 := (HX.out _ k0).2
            go_wp2_with fail
            go_region_held3 (fun w' => w'.cell? ⟨b, off + k * 2, none⟩ = some (.int .i64 nw) ∧ w'.cell? ⟨b, off + k * 2 + 1, none⟩ = some (.slice a2 l.length c2))
              (first | exact HX.out _ k0 | exact HX.out _ kA0 | exact HX.out _ kB0 | exact HX.out _ kA | exact HX.out _ kB | exact HX.out _ kC | exact HX.out _ hb1 | exact HX.out _ (bpush hb1 _) | exact HX.out _ (Below.setCell hb1 (by simp) _) | exact HX.out _ (Below.setCell (Below.setCell hb1 (by simp) _) (by simp) _) | go_keep)
              (first
                | (refine step_app (by rfl) _ _ (by rfl) wr.heap.size _ 0 [] a2 l.length c2 wr.heap.size l (by rfl) (by rfl) ownA SA rfl hn6 sA l.length (flat l) (by omega) (by simp) ?_; intro a1 c1 w1 own1 hg1; have hb1 := kA.grown hg1 (kA.size) (fun k h => by simp only [Value.ownBlock, Option.some.injEq] at h; omega); have O1 := OA.grown hg1 (nb_lit (by omega)); have o10 := O1.cell 0 rfl; have o11 := O1.cell 1 rfl; have o12 := O1.free 0; have o13 := O1.free 1; have wayA : True := trivial)
                | (refine step_app (by rfl) _ _ (by rfl) wr.heap.size _ 0 [] a2 l.length c2 wr.heap.size l (by rfl) (by rfl) ownB SB rfl hn6 sB l.length (flat l) (by omega) (by simp) ?_; intro a1 c1 w1 own1 hg1; have hb1 := kB.grown hg1 (kB.size) (fun k h => by simp only [Value.ownBlock, Option.some.injEq] at h; omega); have O1 := OB.grown hg1 (nb_lit (by omega)); have o10 := O1.cell 0 rfl; have o11 := O1.cell 1 rfl; have o12 := O1.free 0; have o13 := O1.free 1; have wayB : True := trivial)
                | (refine step_app (by rfl) _ _ (by rfl) wr.heap.size _ 0 [] a2 l.length c2 wr.heap.size l (by rfl) (by rfl) ownC SC rfl hn6 sC l.length (flat l) (by omega) (by simp) ?_; intro a1 c1 w1 own1 hg1; have hb1 := kC.grown hg1 (kC.size) (fun k h => by simp only [Value.ownBlock, Option.some.injEq] at h; omega); have wayC : True := trivial))
            all_goals
              first
              | have _w := wayC
                have O4 := Blk.new w1 #[.int .i64 nw, .slice a1 l.length c1] 42
                have own4 := own1.alloc (Obj.cells #[.int .i64 nw, .slice a1 l.length c1] 42)
                have C4 := bpush hb1 (Obj.cells #[.int .i64 nw, .slice a1 l.length c1] 42)
                have hO : wr.heap.size ≤ w1.heap.size := hb1.size
                clear own1 hb1 hg1
                generalize (w1.alloc (Obj.cells #[.int .i64 nw, .slice a1 l.length c1] 42)) = W4 at O4 own4 C4 ⊢
                generalize w1.heap.size = O at O4 hO ⊢
              | have _w := wayA
                have hO1 : (Value.slice a1 l.length c1).ownBlock ≠ some (wr.heap.size) := row_ne own1 O1 (by decide)
                have O4 : Blk ((w1.setCell ⟨wr.heap.size, 0, none⟩ (.int .i64 nw)).setCell ⟨wr.heap.size, 1, none⟩ (.slice a1 l.length c1)) (wr.heap.size) #[.int .i64 nw, .slice a1 l.length c1] 42 := (O1.set 0 (.int .i64 nw)).set 1 (.slice a1 l.length c1)
                have own4 := row_sets (j := 1) (u := .slice a1 l.length c1) (row_sets (j := 0) (u := .int .i64 nw) own1 hO1) hO1
                have C4 : Below wr.heap.size wr ((w1.setCell ⟨wr.heap.size, 0, none⟩ (.int .i64 nw)).setCell ⟨wr.heap.size, 1, none⟩ (.slice a1 l.length c1)) := Below.setCell (Below.setCell hb1 (by simp) _) (by simp) _
                clear O1 o10 o11 o12 o13 own1 hb1 hg1 hO1
                generalize ((w1.setCell ⟨wr.heap.size, 0, none⟩ (.int .i64 nw)).setCell ⟨wr.heap.size, 1, none⟩ (.slice a1 l.length c1)) = W4 at O4 own4 C4 ⊢
                generalize hOe : wr.heap.size = O at O4 ⊢
                have hO : wr.heap.size ≤ O := by omega
                clear hOe
              | have _w := wayB
                have hO1 : (Value.slice a1 l.length c1).ownBlock ≠ some (wr.heap.size + 1) := row_ne own1 O1 (by decide)
                have O4 : Blk ((w1.setCell ⟨wr.heap.size + 1, 0, none⟩ (.int .i64 nw)).setCell ⟨wr.heap.size + 1, 1, none⟩ (.slice a1 l.length c1)) (wr.heap.size + 1) #[.int .i64 nw, .slice a1 l.length c1] 42 := (O1.set 0 (.int .i64 nw)).set 1 (.slice a1 l.length c1)
                have own4 := row_sets (j := 1) (u := .slice a1 l.length c1) (row_sets (j := 0) (u := .int .i64 nw) own1 hO1) hO1
                have C4 : Below wr.heap.size wr ((w1.setCell ⟨wr.heap.size + 1, 0, none⟩ (.int .i64 nw)).setCell ⟨wr.heap.size + 1, 1, none⟩ (.slice a1 l.length c1)) := Below.setCell (Below.setCell hb1 (by simp) _) (by simp) _
                clear O1 o10 o11 o12 o13 own1 hb1 hg1 hO1
                generalize ((w1.setCell ⟨wr.heap.size + 1, 0, none⟩ (.int .i64 nw)).setCell ⟨wr.heap.size + 1, 1, none⟩ (.slice a1 l.length c1)) = W4 at O4 own4 C4 ⊢
                generalize hOe : wr.heap.size + 1 = O at O4 ⊢
                have hO : wr.heap.size ≤ O := by omega
                clear hOe
            all_goals
              clear k0 kA0 kB0 kA kB kC EA EB EC OA OB SA SB SC ownA ownB ownC sA sB sC x0 x1
              have o0 := O4.cell 0 rfl
              have o1 := O4.cell 1 rfl
              have qO := O4.lt
              have rowt := row_mono own4 (B' := w2.heap.size) hz
              have hRL := accS_len8 (now := nw) t h8
              by_cases hki2 : k = i
              · subst hki2
                have T4 := Tr.below C4
                have t0 := T4.cell 0 rfl
                have t1 := T4.cell 1 rfl
                go_wp2_with fail
                refine (home_spec n t.1 t.2 _).mono ?_
                rintro e w5 ⟨rfl, hb5⟩
                rw [E]
                have C5 := bstep C4 hb5
                have O5 := O4.below hb5
                have row5t := row_below rowt hb5
                clear o0 o1 qO t0 t1 T4 O4 own4 rowt C4 hb5
                have o0 := O5.cell 0 rfl
                have o1 := O5.cell 1 rfl
                have qO := O5.lt
                by_cases hhome : H = (k : Int)
                · subst hhome
                  obtain ⟨F1, F2⟩ := sput_at HOK.out (by rw [hl, HH.out]) HBX.out
                  rw [← HR.out] at F1
                  rw [← HV.out] at F2
                  have T5 := Tr.below C5
                  have t0 := T5.cell 0 rfl
                  have t1 := T5.cell 1 rfl
                  have qT := T5.lt
                  have x0 := (HX.out _ C5).1
                  have x1 := (HX.out _ C5).2
                  have qb : b < w5.heap.size := Nat.lt_of_lt_of_le hbw C5.size
                  have hs5 := (HS.out.below C5).mono C5.size
                  have HT := Lib.hid (l13try_u nw t a2 l.length c2 l w5.drew rfl h8 hc2 (by omega) (by omega) HSR.out hs5)
                  have HTa := Lib.hid (l13try_u nw t a2 l.length c2 l (w5.alloc z0Reg).drew rfl h8 hc2 (by omega) (by omega) HSR.out (sl_push hs5 z0Reg))
                  obtain ⟨L, hL⟩ : ∃ x, accS nw l t = x := ⟨_, rfl⟩
                  obtain ⟨U, hU⟩ : ∃ x, accT nw l t = x := ⟨_, rfl⟩
                  rw [hL, hU] at HT HTa
                  rw [hL] at F1 hRL
                  rw [hU] at F2
                  have HF1 := Lib.hid F1
                  have HF2 := Lib.hid F2
                  clear hs5 hL hU F1 F2
                  go_wp2_with fail
                  go_region_law (first
                    | (go_simp; go_at_call 33; with_reducible refine HT.out.mono ?_; rintro e w3 ⟨a3, c3, rfl, hb3, ow3⟩; have way : True := trivial)
                    | (go_simp; go_at_call 33; with_reducible refine HTa.out.mono ?_; rintro e w3 ⟨a3, c3, rfl, hb3, ow3⟩; have Z3 := (Blk.new w5 #[.int .i64 0, .slice none 0 0] 42).drew.below hb3; have z30 := Z3.cell 0 rfl; have z31 := Z3.cell 1 rfl; have z32 := Z3.free 0; have z33 := Z3.free 1))
                  all_goals
                    first
                    | have _w := way
                      have B6 := bpush (bstep (bdrew (Below.refl w5.heap.size w5)) hb3) (Obj.cells #[.int .i64 nw, .slice a3 L.length c3] 42)
                      have rowt := row_mono (ow3.alloc (Obj.cells #[.int .i64 nw, .slice a3 L.length c3] 42)) (B' := w2.heap.size) (Nat.le_trans hz C5.size)
                      have Z6 := Blk.new w3 #[.int .i64 nw, .slice a3 L.length c3] 42
                      clear way _w hb3 ow3
                      generalize (w3.alloc (Obj.cells #[.int .i64 nw, .slice a3 L.length c3] 42)) = W6 at B6 rowt Z6 ⊢
                      generalize w3.heap.size = Z at Z6 ⊢
                    | have B6 : Below w5.heap.size w5 ((w3.setCell ⟨w5.heap.size, 0, none⟩ (.int .i64 nw)).setCell ⟨w5.heap.size, 1, none⟩ (.slice a3 L.length c3)) := Below.setCell (Below.setCell (bstep (bdrew (bpush (Below.refl w5.heap.size w5) z0Reg)) hb3) (by simp) _) (by simp) _
                      have hneZ := row_ne ow3 Z3 (by decide)
                      have rowt := row_mono (row_sets (b := w5.heap.size) (j := 1) (u := .slice a3 L.length c3) (row_sets (b := w5.heap.size) (j := 0) (u := .int .i64 nw) ow3 hneZ) hneZ) (B' := w2.heap.size) (Nat.le_trans (Nat.le_trans hz C5.size) (by show w5.heap.size ≤ (w5.alloc z0Reg).heap.size; simp))
                      have Z6 : Blk ((w3.setCell ⟨w5.heap.size, 0, none⟩ (.int .i64 nw)).setCell ⟨w5.heap.size, 1, none⟩ (.slice a3 L.length c3)) w5.heap.size #[.int .i64 nw, .slice a3 L.length c3] 42 := (Z3.set 0 (.int .i64 nw)).set 1 (.slice a3 L.length c3)
                      clear hb3 ow3 Z3 z30 z31 z32 z33 hneZ
                      generalize ((w3.setCell ⟨w5.heap.size, 0, none⟩ (.int .i64 nw)).setCell ⟨w5.heap.size, 1, none⟩ (.slice a3 L.length c3)) = W6 at B6 rowt Z6 ⊢
                    have O6 := O5.below B6
                    have C7 : Below wr.heap.size wr ((W6.setCell ⟨O, 0, none⟩ (.int .i64 nw)).setCell ⟨O, 1, none⟩ (.slice a3 L.length c3)) := Below.setCell (Below.setCell (bstep C5 B6) (by simp <;> omega) _) (by simp <;> omega) _
                    have hneO := row_ne rowt O6 (by decide)
                    have rowt7 := row_sets (b := O) (j := 1) (u := .slice a3 L.length c3) (row_sets (b := O) (j := 0) (u := .int .i64 nw) rowt hneO) hneO
                    clear o0 o1 t0 t1 x0 x1 HT HTa C5 row5t B6 rowt hneO T5
                    have o0 := O6.cell 0 rfl
                    have o1 := O6.cell 1 rfl
                    have of0 := O6.free 0
                    have of1 := O6.free 1
                    have z0 := Z6.cell 0 rfl
                    have z1 := Z6.cell 1 rfl
                    have qO6 := O6.lt
                    have N5 := Blk.new (((W6.setCell ⟨O, 0, none⟩ (.int .i64 nw)).setCell ⟨O, 1, none⟩ (.slice a3 L.length c3))) #[.int .i64 nw, .slice a3 L.length c3] 42
                    simp only [World.size_setCell] at N5
                    have K5 := bpush C7 (Obj.cells #[.int .i64 nw, .slice a3 L.length c3] 42)
                    have own5 := ownr.below K5
                    have rowc5 := World.ownsRow.alloc rowt7 (Obj.cells #[.int .i64 nw, .slice a3 L.length c3] 42)
                    have T5 := Tr.below K5
                    have hB5 := bstep hbr K5
                    have row5 := own5.row
                    have hzW : w2.heap.size ≤ W6.heap.size := by first | exact Nat.le_trans hz C7.size | (have := C7.size; simp at this; omega)
                    go_wp2_with (at_builtin; refine wpList_append_lies _ rfl _ _ _ rfl w2.heap.size _ j0 _ 2 32 Try.underlying26 GI.out GZ.out GZ1.out GY.out rfl (by omega) _ _ _ rfl row5 ⟨W6.heap.size, 0, none⟩ 1 1 [.int .i64 nw, .slice a3 L.length c3] rfl rfl (World.news_of_block N5) (by simp [Value.oneCell']) (by omega) (by unfold maxLen; omega) (by omega) (by simp; omega) (W6.heap.size + 1) (by simp) ?_; intro g2 cap2 w9 row6 hgrow hat hg2)
                    have hc6 := chg_grown row5 hgrow
                    have T6 := T5.grown hgrow (fun h => by have := rows_lt row5 _ h; omega)
                    have in6 : ∀ t ∈ sl, w9.ownsRow w2.heap.size 30 2 (inS t) t.2.1.length (flat t.2.1) := fun t m => row_grown (own5.ins t m) hgrow (rows_ne (own5.ins t m) row5 (by decide))
                    have rowc6 := row_grown rowc5 hgrow (rows_ne rowc5 row5 (by decide))
                    have own6 := SvR.snoc (t := (nw, L, a3, c3)) row6 in6 rowc6
                    have hz6 : w2.heap.size ≤ w9.heap.size := by have := hc6.size; simp at this; omega
                    have hB6 : Below w.heap.size w w9 := hB5.trans (hc6.below (by omega) (by simp; omega))
                    clear N5 K5 own5 rowc5 T5 hB5 row5 row6 in6 rowc6 hc6 hgrow hat
                    go_roundw
                    case rel =>
                      refine ⟨k + 1, sl ++ [(nw, L, a3, c3)], by omega, by go_num, by first | rfl | (rw [HF2.out]; simp) | simp [HF2.out], by simp; omega, ?_, ?_, hz6, hB6, T6, by rw [← hlk]; exact own6⟩
                      · rw [srvs_snoc, HSV.out, take_snoc (d := (0, [])) (by omega), HF1.out]
                      · exact all_snoc (P := fun t => t.2.1.length ≤ 8) HM8.out hRL
                    case measure => simp [intOf]; omega
                · have hRs : R = ss := by
                    have := (sres_away HOK.out (by rw [hl, HH.out]; exact fun h => hhome h.symm)).1
                    rw [(sres_ok HOK.out).1] at this
                    rw [HR.out, this]
                  have hVf : V = false := by
                    have := (sres_away HOK.out (by rw [hl, HH.out]; exact fun h => hhome h.symm)).2
                    rw [(sres_ok HOK.out).2] at this
                    rw [HV.out, this]
                  have hgk : R.getD k (0, []) = (nw, l) := by rw [hRs]; exact HBX.out
                  have HRs := Lib.hid hRs
                  clear hRs
                  have N5 := Blk.new (w5) #[.int .i64 nw, .slice a1 l.length c1] 42
                  have K5 := bpush C5 (Obj.cells #[.int .i64 nw, .slice a1 l.length c1] 42)
                  have own5 := ownr.below K5
                  have rowc5 := World.ownsRow.alloc row5t (Obj.cells #[.int .i64 nw, .slice a1 l.length c1] 42)
                  have T5 := Tr.below K5
                  have hB5 := bstep hbr K5
                  have row5 := own5.row
                  have hzW : w2.heap.size ≤ w5.heap.size := by first | exact Nat.le_trans hz C5.size | (have := C5.size; simp at this; omega)
                  go_wp2_with (at_builtin; refine wpList_append_lies _ rfl _ _ _ rfl w2.heap.size _ j0 _ 2 32 Try.underlying26 GI.out GZ.out GZ1.out GY.out rfl (by omega) _ _ _ rfl row5 ⟨w5.heap.size, 0, none⟩ 1 1 [.int .i64 nw, .slice a1 l.length c1] rfl rfl (World.news_of_block N5) (by simp [Value.oneCell']) (by omega) (by unfold maxLen; omega) (by omega) (by simp; omega) (w5.heap.size + 1) (by simp) ?_; intro g2 cap2 w9 row6 hgrow hat hg2)
                  have hc6 := chg_grown row5 hgrow
                  have T6 := T5.grown hgrow (fun h => by have := rows_lt row5 _ h; omega)
                  have in6 : ∀ t ∈ sl, w9.ownsRow w2.heap.size 30 2 (inS t) t.2.1.length (flat t.2.1) := fun t m => row_grown (own5.ins t m) hgrow (rows_ne (own5.ins t m) row5 (by decide))
                  have rowc6 := row_grown rowc5 hgrow (rows_ne rowc5 row5 (by decide))
                  have own6 := SvR.snoc (t := (nw, l, a1, c1)) row6 in6 rowc6
                  have hz6 : w2.heap.size ≤ w9.heap.size := by have := hc6.size; simp at this; omega
                  have hB6 : Below w.heap.size w w9 := hB5.trans (hc6.below (by omega) (by simp; omega))
                  clear N5 K5 own5 rowc5 T5 hB5 row5 row6 in6 rowc6 hc6 hgrow hat
                  go_roundw
                  case rel =>
                    refine ⟨k + 1, sl ++ [(nw, l, a1, c1)], by omega, by go_num, by first | rfl | simp [hVf], by simp; omega, ?_, ?_, hz6, hB6, T6, by rw [← hlk]; exact own6⟩
                    · rw [srvs_snoc, HSV.out, take_snoc (d := (0, [])) (by omega), hgk]
                    · exact all_snoc (P := fun t => t.2.1.length ≤ 8) HM8.out h8
                  case measure => simp [intOf]; omega
              · have hgk : R.getD k (0, []) = (nw, l) := by rw [HR.out, sput_other hA0 (by omega) (by omega)]; exact HBX.out
                have N5 := Blk.new (W4) #[.int .i64 nw, .slice a1 l.length c1] 42
                have K5 := bpush C4 (Obj.cells #[.int .i64 nw, .slice a1 l.length c1] 42)
                have own5 := ownr.below K5
                have rowc5 := World.ownsRow.alloc rowt (Obj.cells #[.int .i64 nw, .slice a1 l.length c1] 42)
                have T5 := Tr.below K5
                have hB5 := bstep hbr K5
                have row5 := own5.row
                have hzW : w2.heap.size ≤ W4.heap.size := by first | exact Nat.le_trans hz C4.size | (have := C4.size; simp at this; omega)
                go_wp2_with (at_builtin; refine wpList_append_lies _ rfl _ _ _ rfl w2.heap.size _ j0 _ 2 32 Try.underlying26 GI.out GZ.out GZ1.out GY.out rfl (by omega) _ _ _ rfl row5 ⟨W4.heap.size, 0, none⟩ 1 1 [.int .i64 nw, .slice a1 l.length c1] rfl rfl (World.news_of_block N5) (by simp [Value.oneCell']) (by omega) (by unfold maxLen; omega) (by omega) (by simp; omega) (W4.heap.size + 1) (by simp) ?_; intro g2 cap2 w9 row6 hgrow hat hg2)
                have hc6 := chg_grown row5 hgrow
                have T6 := T5.grown hgrow (fun h => by have := rows_lt row5 _ h; omega)
                have in6 : ∀ t ∈ sl, w9.ownsRow w2.heap.size 30 2 (inS t) t.2.1.length (flat t.2.1) := fun t m => row_grown (own5.ins t m) hgrow (rows_ne (own5.ins t m) row5 (by decide))
                have rowc6 := row_grown rowc5 hgrow (rows_ne rowc5 row5 (by decide))
                have own6 := SvR.snoc (t := (nw, l, a1, c1)) row6 in6 rowc6
                have hz6 : w2.heap.size ≤ w9.heap.size := by have := hc6.size; simp at this; omega
                have hB6 : Below w.heap.size w w9 := hB5.trans (hc6.below (by omega) (by simp; omega))
                clear N5 K5 own5 rowc5 T5 hB5 row5 row6 in6 rowc6 hc6 hgrow hat
                go_roundw
                case rel =>
                  refine ⟨k + 1, sl ++ [(nw, l, a1, c1)], by omega, by go_num, by first | rfl | rw [show decide (i < k + 1) = decide (i < k) from decide_eq_decide.2 (by omega)], by simp; omega, ?_, ?_, hz6, hB6, T6, by rw [← hlk]; exact own6⟩
                  · rw [srvs_snoc, HSV.out, take_snoc (d := (0, [])) (by omega), hgk]
                  · exact all_snoc (P := fun t => t.2.1.length ≤ 8) HM8.out h8
                case measure => simp [intOf]; omega
          · obtain rfl : k = n := by omega
            have ho := ownr.row
            rw [hlk] at ho
            obtain ⟨av, cp, rfl⟩ := row_form ho
            have hsv : srvs sl = R := by rw [HSV.out, List.take_of_length_le (by omega)]
            have nr := ownr.nr hlk (by omega) HM8.out
            rw [hsv] at nr
            have hdk : (decide (i < k) && V) = V := by rw [decide_eq_true (by omega), Bool.true_and]
            clear hsv ho ownr
            rw [hdk]
            go_wp2_with fail
            refine bodyPost_ret (v := .tuple #[.slice av k cp, .bool V]) ?_ rfl ⟨av, cp, by rw [hRl], hbr, by rw [hRl]; exact nr⟩
            simp only [results, Try.results9]
            go_simp
end Go.Proofs.Ytjlaikmilcgmhaa
