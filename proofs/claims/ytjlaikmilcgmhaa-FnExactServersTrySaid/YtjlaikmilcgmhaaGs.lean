/- A ticket presented to a register: the reference's inner function. -/
import Derived.Test.YtjlaikmilcgmhaaGr
namespace Go.Proofs.Ytjlaikmilcgmhaa
open Go.RowKit
set_option linter.unusedVariables false
attribute [local go_sem ↓] Go.wp_at_zero Go.wp_at_succ

def accS (now : Int) (l : TL) (t : Int × Int) : TL := if accT now l t = true then insT t l else l
/-- What l13Try hands back: a row of its own. -/
def Tried (w : World) (now : Int) (l : TL) (ok : Bool) (e : Ending) (w' : World) : Prop :=
  ∃ (a : Option Addr) (cap : Nat), e = .returned (.tuple #[.agg #[.int .i64 now, .slice a l.length cap], .bool ok]) ∧ Below w.heap.size w w' ∧ w'.ownsRow w.heap.size 30 2 (.slice a l.length cap) l.length (flat l)
theorem nb_lit {x b : Nat} (h : x ≠ b) : (Value.slice (some ⟨b, 0, none⟩) (0 : Nat) 0).ownBlock ≠ some x := by
  simp only [Value.ownBlock, ne_eq, Option.some.injEq]; exact fun e => h e.symm
theorem acc_no {now : Int} {l : TL} {t : Int × Int} (g : accT now l t = false) : accS now l t = l ∧ accT now l t = false := by
  unfold accS; rw [g]; exact ⟨rfl, rfl⟩
theorem acc_yes {now : Int} {l : TL} {t : Int × Int} (g : accT now l t = true) : accS now l t = insT t l ∧ accT now l t = true := by
  unfold accS; rw [g]; exact ⟨rfl, rfl⟩

set_option maxHeartbeats 8000000 in
theorem l13try_c (now : Int) (t : Int × Int) (a : Option Addr) (n cap : Nat) (l : List (Int × Int)) (w : World) (hl : l.length = n) (hn : n ≤ 8) (hcap : n ≤ cap) (hn1 : -1000000 ≤ now) (hn2 : now ≤ 1000000) (hsrt : Srt l) (S : Sl 2 w w.heap.size a n (tkG l)) :
    Calls Try.prog 33 #[.agg #[.int .i64 now, .slice a n cap], .agg #[.int .i64 t.1, .int .i64 t.2]] w (Tried w now (accS now l t) (accT now l t)) := by
  have hb0 := bpush (bpush (bpush (Below.refl w.heap.size w) (Obj.cells #[.int .i64 now, .slice a n cap] 42)) (Obj.cells #[.int .i64 t.1, .int .i64 t.2] 30)) (Obj.cells #[.int .i64 0, .slice none 0 0] 42)
  have B0 := ((Blk.new w #[.int .i64 now, .slice a n cap] 42).alloc (Obj.cells #[.int .i64 t.1, .int .i64 t.2] 30)).alloc (Obj.cells #[.int .i64 0, .slice none 0 0] 42)
  have T0 := (Blk.new (w.alloc (Obj.cells #[.int .i64 now, .slice a n cap] 42)) #[.int .i64 t.1, .int .i64 t.2] 30).alloc (Obj.cells #[.int .i64 0, .slice none 0 0] 42)
  have R0 := Blk.new ((w.alloc (Obj.cells #[.int .i64 now, .slice a n cap] 42)).alloc (Obj.cells #[.int .i64 t.1, .int .i64 t.2] 30)) #[.int .i64 0, .slice none 0 0] 42
  simp only [World.size_alloc] at R0 T0
  obtain ⟨w0, hw0⟩ : ∃ w0, w0 = ((w.alloc (Obj.cells #[.int .i64 now, .slice a n cap] 42)).alloc (Obj.cells #[.int .i64 t.1, .int .i64 t.2] 30)).alloc (Obj.cells #[.int .i64 0, .slice none 0 0] 42) := ⟨_, rfl⟩
  have HS := Lib.hid S
  have HR := Lib.hid hsrt
  clear S hsrt
  go_enter Try.func33, Try.ntmps33
  go_wp2_with fail
  rw [← hw0] at hb0 B0 T0 R0 ⊢
  clear hw0
  have q0 := R0.lt
  have EA := ((Blk.new (w0.alloc (Obj.cells #[.int .i64 0, .slice none 0 0] 42)) #[] 30)).drew
  have EB := ((Blk.new w0 #[] 30).alloc (Obj.cells #[.int .i64 0, .slice none 0 0] 42)).drew
  have EC := (Blk.new w0 #[] 30).drew
  have OA := ((Blk.new w0 #[.int .i64 0, .slice none 0 0] 42).alloc (Obj.cells #[] 30)).drew
  have OB := (Blk.new (w0.alloc (Obj.cells #[] 30)) #[.int .i64 0, .slice none 0 0] 42).drew
  rw [World.size_alloc] at EA OB
  have hbA := bdrew (bpush (bpush hb0 (Obj.cells #[.int .i64 0, .slice none 0 0] 42)) (Obj.cells #[] 30))
  have hbB := bdrew (bpush (bpush hb0 (Obj.cells #[] 30)) (Obj.cells #[.int .i64 0, .slice none 0 0] 42))
  have hbC := bdrew (bpush hb0 (Obj.cells #[] 30))
  have SA := HS.out.below hbA
  have SB := HS.out.below hbB
  have SC := HS.out.below hbC
  have BA := ((B0.alloc (Obj.cells #[.int .i64 0, .slice none 0 0] 42)).alloc (Obj.cells #[] 30)).drew
  have BB := ((B0.alloc (Obj.cells #[] 30)).alloc (Obj.cells #[.int .i64 0, .slice none 0 0] 42)).drew
  have BC := (B0.alloc (Obj.cells #[] 30)).drew
  have TA := ((T0.alloc (Obj.cells #[.int .i64 0, .slice none 0 0] 42)).alloc (Obj.cells #[] 30)).drew
  have TB := ((T0.alloc (Obj.cells #[] 30)).alloc (Obj.cells #[.int .i64 0, .slice none 0 0] 42)).drew
  have TC := (T0.alloc (Obj.cells #[] 30)).drew
  have RA := ((R0.alloc (Obj.cells #[.int .i64 0, .slice none 0 0] 42)).alloc (Obj.cells #[] 30)).drew
  have RB := ((R0.alloc (Obj.cells #[] 30)).alloc (Obj.cells #[.int .i64 0, .slice none 0 0] 42)).drew
  have RC := (R0.alloc (Obj.cells #[] 30)).drew
  have ownA := own_made (base := w.heap.size + 1 + 1 + 1) EA (by omega)
  have ownB := own_made (base := w.heap.size + 1 + 1 + 1) EB (by omega)
  have ownC := own_made (base := w.heap.size + 1 + 1 + 1) EC (by omega)
  have sA : w.heap.size + 1 + 1 + 1 ≤ (((w0.alloc (Obj.cells #[.int .i64 0, .slice none 0 0] 42)).alloc (Obj.cells #[] 30)).drew).heap.size := by simp; omega
  have sB : w.heap.size + 1 + 1 + 1 ≤ (((w0.alloc (Obj.cells #[] 30)).alloc (Obj.cells #[.int .i64 0, .slice none 0 0] 42)).drew).heap.size := by simp; omega
  have sC : w.heap.size + 1 + 1 + 1 ≤ ((w0.alloc (Obj.cells #[] 30)).drew).heap.size := by simp; omega
  have B0a := (B0.alloc (Obj.cells #[.int .i64 0, .slice none 0 0] 42)).drew
  have B0b := (B0.alloc (Obj.cells #[] 30)).drew
  go_region_held3 (fun w' => w'.cell? ⟨w.heap.size, 0, none⟩ = some (.int .i64 now) ∧ w'.cell? ⟨w.heap.size, 1, none⟩ = some (.slice a n cap))
    (first | exact ⟨B0.cell 0 rfl, B0.cell 1 rfl⟩ | exact ⟨B0a.cell 0 rfl, B0a.cell 1 rfl⟩ | exact ⟨B0b.cell 0 rfl, B0b.cell 1 rfl⟩ | exact ⟨BA.cell 0 rfl, BA.cell 1 rfl⟩ | exact ⟨BB.cell 0 rfl, BB.cell 1 rfl⟩ | exact ⟨BC.cell 0 rfl, BC.cell 1 rfl⟩ | exact ⟨B1.cell 0 rfl, B1.cell 1 rfl⟩ | exact ⟨(B1.alloc _).cell 0 rfl, (B1.alloc _).cell 1 rfl⟩ | exact ⟨(B1.other (by omega) _ _).cell 0 rfl, (B1.other (by omega) _ _).cell 1 rfl⟩ | exact ⟨((B1.other (by omega) _ _).other (by omega) _ _).cell 0 rfl, ((B1.other (by omega) _ _).other (by omega) _ _).cell 1 rfl⟩ | go_keep)
    (first | (refine step_app (by rfl) _ _ (by rfl) (w.heap.size + 1 + 1 + 1) _ 0 [] a n cap w.heap.size l (by rfl) (by rfl) ownA SA hl (by omega) sA n (flat l) (by omega) (by simp) ?_; intro a1 c1 w1 own1 hg1; have B1 := BA.grown hg1 (nb_lit (by omega)); have T1 := TA.grown hg1 (nb_lit (by omega)); have R1 := RA.grown hg1 (nb_lit (by omega)); have hb1 := hbA.grown hg1 (hbA.size) (fun k h => by simp only [Value.ownBlock, Option.some.injEq] at h; omega); have O1 := OA.grown hg1 (nb_lit (by omega)); have o10 := O1.cell 0 rfl; have o11 := O1.cell 1 rfl; have o12 := O1.free 0; have o13 := O1.free 1; have wayA : True := trivial) | (refine step_app (by rfl) _ _ (by rfl) (w.heap.size + 1 + 1 + 1) _ 0 [] a n cap w.heap.size l (by rfl) (by rfl) ownB SB hl (by omega) sB n (flat l) (by omega) (by simp) ?_; intro a1 c1 w1 own1 hg1; have B1 := BB.grown hg1 (nb_lit (by omega)); have T1 := TB.grown hg1 (nb_lit (by omega)); have R1 := RB.grown hg1 (nb_lit (by omega)); have hb1 := hbB.grown hg1 (hbB.size) (fun k h => by simp only [Value.ownBlock, Option.some.injEq] at h; omega); have O1 := OB.grown hg1 (nb_lit (by omega)); have o10 := O1.cell 0 rfl; have o11 := O1.cell 1 rfl; have o12 := O1.free 0; have o13 := O1.free 1; have wayB : True := trivial) | (refine step_app (by rfl) _ _ (by rfl) (w.heap.size + 1 + 1 + 1) _ 0 [] a n cap w.heap.size l (by rfl) (by rfl) ownC SC hl (by omega) sC n (flat l) (by omega) (by simp) ?_; intro a1 c1 w1 own1 hg1; have B1 := BC.grown hg1 (nb_lit (by omega)); have T1 := TC.grown hg1 (nb_lit (by omega)); have R1 := RC.grown hg1 (nb_lit (by omega)); have hb1 := hbC.grown hg1 (hbC.size) (fun k h => by simp only [Value.ownBlock, Option.some.injEq] at h; omega); have wayC : True := trivial))
  all_goals
    first
    | have _w := wayC
      have O4 := Blk.new w1 #[.int .i64 now, .slice a1 n c1] 42
      have B4 := B1.alloc (Obj.cells #[.int .i64 now, .slice a1 n c1] 42)
      have T4 := T1.alloc (Obj.cells #[.int .i64 now, .slice a1 n c1] 42)
      have R4 := R1.alloc (Obj.cells #[.int .i64 now, .slice a1 n c1] 42)
      have own4 := own1.alloc (Obj.cells #[.int .i64 now, .slice a1 n c1] 42)
      have C4 := bpush hb1 (Obj.cells #[.int .i64 now, .slice a1 n c1] 42)
      have hO : w.heap.size + 1 + 1 < w1.heap.size := R1.lt
      clear B1 T1 R1 own1 hb1 hg1
      generalize (w1.alloc (Obj.cells #[.int .i64 now, .slice a1 n c1] 42)) = W4 at O4 B4 T4 R4 own4 C4 ⊢
      generalize w1.heap.size = O at O4 hO ⊢
    | have _w := wayA
      have hO1 : (Value.slice a1 n c1).ownBlock ≠ some (w0.heap.size) := row_ne own1 O1 (by decide)
      have O4 : Blk ((w1.setCell ⟨w0.heap.size, 0, none⟩ (.int .i64 now)).setCell ⟨w0.heap.size, 1, none⟩ (.slice a1 n c1)) (w0.heap.size) #[.int .i64 now, .slice a1 n c1] 42 := (O1.set 0 (.int .i64 now)).set 1 (.slice a1 n c1)
      have B4 := (B1.other (b' := w0.heap.size) (by omega) 0 (.int .i64 now)).other (b' := w0.heap.size) (by omega) 1 (.slice a1 n c1)
      have T4 := (T1.other (b' := w0.heap.size) (by omega) 0 (.int .i64 now)).other (b' := w0.heap.size) (by omega) 1 (.slice a1 n c1)
      have R4 := (R1.other (b' := w0.heap.size) (by omega) 0 (.int .i64 now)).other (b' := w0.heap.size) (by omega) 1 (.slice a1 n c1)
      have own4 := row_sets (j := 1) (u := .slice a1 n c1) (row_sets (j := 0) (u := .int .i64 now) own1 hO1) hO1
      have C4 := (hb1.setCell (p := ⟨w0.heap.size, 0, none⟩) (by simp; omega) (.int .i64 now)).setCell (p := ⟨w0.heap.size, 1, none⟩) (by simp; omega) (.slice a1 n c1)
      have hO : w.heap.size + 1 + 1 < w0.heap.size := by omega
      clear B1 T1 R1 O1 o10 o11 o12 o13 own1 hb1 hg1 hO1
      generalize ((w1.setCell ⟨w0.heap.size, 0, none⟩ (.int .i64 now)).setCell ⟨w0.heap.size, 1, none⟩ (.slice a1 n c1)) = W4 at O4 B4 T4 R4 own4 C4 ⊢
      generalize w0.heap.size = O at O4 hO ⊢
    | have _w := wayB
      have hO1 : (Value.slice a1 n c1).ownBlock ≠ some (w0.heap.size + 1) := row_ne own1 O1 (by decide)
      have O4 : Blk ((w1.setCell ⟨w0.heap.size + 1, 0, none⟩ (.int .i64 now)).setCell ⟨w0.heap.size + 1, 1, none⟩ (.slice a1 n c1)) (w0.heap.size + 1) #[.int .i64 now, .slice a1 n c1] 42 := (O1.set 0 (.int .i64 now)).set 1 (.slice a1 n c1)
      have B4 := (B1.other (b' := w0.heap.size + 1) (by omega) 0 (.int .i64 now)).other (b' := w0.heap.size + 1) (by omega) 1 (.slice a1 n c1)
      have T4 := (T1.other (b' := w0.heap.size + 1) (by omega) 0 (.int .i64 now)).other (b' := w0.heap.size + 1) (by omega) 1 (.slice a1 n c1)
      have R4 := (R1.other (b' := w0.heap.size + 1) (by omega) 0 (.int .i64 now)).other (b' := w0.heap.size + 1) (by omega) 1 (.slice a1 n c1)
      have own4 := row_sets (j := 1) (u := .slice a1 n c1) (row_sets (j := 0) (u := .int .i64 now) own1 hO1) hO1
      have C4 := (hb1.setCell (p := ⟨w0.heap.size + 1, 0, none⟩) (by simp; omega) (.int .i64 now)).setCell (p := ⟨w0.heap.size + 1, 1, none⟩) (by simp; omega) (.slice a1 n c1)
      have hO : w.heap.size + 1 + 1 < w0.heap.size + 1 := by omega
      clear B1 T1 R1 O1 o10 o11 o12 o13 own1 hb1 hg1 hO1
      generalize ((w1.setCell ⟨w0.heap.size + 1, 0, none⟩ (.int .i64 now)).setCell ⟨w0.heap.size + 1, 1, none⟩ (.slice a1 n c1)) = W4 at O4 B4 T4 R4 own4 C4 ⊢
      generalize w0.heap.size + 1 = O at O4 hO ⊢
  all_goals
    clear EA EB EC OA OB hbA hbB hbC SA SB SC BA BB BC TA TB TC RA RB RC ownA ownB ownC sA sB sC B0a B0b B0 T0 R0 hb0 q0
    have b0 := B4.cell 0 rfl
    have b1 := B4.cell 1 rfl
    have e0 := T4.cell 0 rfl
    have e1 := T4.cell 1 rfl
    have g10 : IntKind.i64.wrap (now - 10) = now - 10 := IntWalk.i64_in _ (by omega)
    cases hb : inB t.2 (now - 10) now
    · have hacc : accT now l t = false := by unfold accT; rw [hb]; rfl
      obtain ⟨G1, G2⟩ := acc_no hacc
      have H1 := Lib.hid G1; have H2 := Lib.hid G2
      clear G1 G2 hacc
      have o0 := O4.cell 0 rfl
      have o1 := O4.cell 1 rfl
      have r0 := R4.cell 0 rfl
      have r1 := R4.cell 1 rfl
      have s0 := R4.free 0
      have s1 := R4.free 1
      have hr := Lib.hid (row_ne own4 R4 (by decide))
      go_wp2_with (go_at_call 31; refine (l6In_c _ _ _ _).mono ?_; rintro e w' ⟨rfl, rfl⟩)
      refine bodyPost_ret (v := .tuple #[.agg #[.int .i64 now, .slice a1 n c1], .bool false]) ?_ rfl ?_
      · simp only [results, Try.results33]
        go_simp
      · rw [H1.out, H2.out]
        unfold Tried
        rw [hl]
        refine ⟨a1, c1, rfl, ?_, ?_⟩
        · repeat (first | with_reducible exact C4 | with_reducible refine Below.setCell ?_ (by simp <;> omega) _)
        · refine row_mono ?_ (show w.heap.size ≤ w.heap.size + 1 + 1 + 1 by omega)
          repeat (first | with_reducible exact own4 | with_reducible refine row_sets ?_ hr.out)
    · by_cases h8 : 8 ≤ n
      · have h8i : (8 : Int) ≤ (n : Int) := by omega
        have hacc : accT now l t = false := by unfold accT; rw [show decide (l.length < 8) = false from decide_eq_false (by omega)]; simp
        obtain ⟨G1, G2⟩ := acc_no hacc
        have H1 := Lib.hid G1; have H2 := Lib.hid G2
        clear G1 G2 hacc h8
        have o0 := O4.cell 0 rfl
        have o1 := O4.cell 1 rfl
        have r0 := R4.cell 0 rfl
        have r1 := R4.cell 1 rfl
        have s0 := R4.free 0
        have s1 := R4.free 1
        have hr := Lib.hid (row_ne own4 R4 (by decide))
        go_wp2_with (go_at_call 31; refine (l6In_c _ _ _ _).mono ?_; rintro e w' ⟨rfl, rfl⟩)
        refine bodyPost_ret (v := .tuple #[.agg #[.int .i64 now, .slice a1 n c1], .bool false]) ?_ rfl ?_
        · simp only [results, Try.results33]
          go_simp
        · rw [H1.out, H2.out]
          unfold Tried
          rw [hl]
          refine ⟨a1, c1, rfl, ?_, ?_⟩
          · repeat (first | with_reducible exact C4 | with_reducible refine Below.setCell ?_ (by simp <;> omega) _)
          · refine row_mono ?_ (show w.heap.size ≤ w.heap.size + 1 + 1 + 1 by omega)
            repeat (first | with_reducible exact own4 | with_reducible refine row_sets ?_ hr.out)
      · have h8i : ¬ (8 : Int) ≤ (n : Int) := by omega
        go_wp2_with (go_at_call 31; refine (l6In_c _ _ _ _).mono ?_; rintro e w' ⟨rfl, rfl⟩)
        have hb' := Lib.hid hb
        clear b0 b1 e0 e1 g10 hb
        obtain ⟨P, hP⟩ : ∃ P, posT t l = P := ⟨_, rfl⟩
        have HP := Lib.hid hP
        have hPn : P ≤ n := by rw [← hP, ← hl]; exact posT_le _ _
        clear hP
        go_loopw [7] (fun i wr => ∃ k : Nat, k ≤ P ∧ i = .int .i64 k ∧ Below w.heap.size w wr ∧ Blk wr w.heap.size #[.int .i64 now, .slice a n cap] 42 ∧ Blk wr (w.heap.size + 1) #[.int .i64 t.1, .int .i64 t.2] 30 ∧ Blk wr (w.heap.size + 1 + 1) #[.int .i64 0, .slice none 0 0] 42 ∧ Blk wr O #[.int .i64 now, .slice a1 n c1] 42 ∧ wr.ownsRow (w.heap.size + 1 + 1 + 1) 30 2 (.slice a1 n c1) n (flat l)) (fun i _ => P - (intOf i).toNat)
        case atStart => exact ⟨0, by omega, rfl, C4, B4, T4, R4, O4, own4⟩
        case round =>
          obtain ⟨k, hk, rfl, C5, B5, T5, R5, O5, own5⟩ := hrel
          clear C4 B4 T4 R4 O4 own4
          have hkn : k ≤ n := by omega
          by_cases hlt : k < n
          · have hki : (k : Int) < (n : Int) := by omega
            have hk0 : (0 : Int) ≤ (k : Int) := by omega
            obtain ⟨e, he⟩ : ∃ e, l.getD k (0, 0) = e := ⟨_, rfl⟩
            have HE := Lib.hid he
            obtain ⟨b, off, ha, hB, hc⟩ := (HS.out.below C5).at hlt
            have y0' := hc k hlt 0 (by omega)
            have y1' := hc k hlt 1 (by omega)
            simp only [tkG, Nat.add_zero, he] at y0' y1'
            clear hc he
            have q0 := B5.lt
            have v0 := ext_cell y0' (by omega)
            have v1 := ext_cell y1' (by omega)
            have x0 := B5.ext 0 rfl
            have x1 := B5.ext 1 rfl
            have y0 := T5.ext 0 rfl
            have y1 := T5.ext 1 rfl
            cases hle : tkLt e t
            · have hPk : P = k := by
                rcases Nat.lt_or_ge k P with g | g
                · have := posT_lt (t := t) (l := l) (i := k) (by rw [HP.out]; exact g)
                  rw [HE.out, hle] at this; cases this
                · omega
              have HPK := Lib.hid (HP.out.trans hPk)
              subst ha
              have hck : ¬ cap = k := by omega
              go_wp2_with fail
              refine wp_region_ext (by kernel_rfl) (by kernel_rfl) ?_
              repeat (go_big_quiet_step ((first | (go_at_call 40; exact ext_of (less_c e t _)))))
              refine wpQuiet_nil ?_
              rintro w2 ⟨⟨_, hw2⟩, rfl⟩
              clear x0 x1 y0 y1 v0 v1 hle
              have C6 := bstep C5 hw2
              have B6 := B5.below hw2
              have T6 := T5.below hw2
              have R6 := R5.below hw2
              have O6 := O5.below hw2
              have own6 := row_below own5 hw2
              have v0 := ext_cell ((World.cell?_of_block (hw2.block b (by omega))).trans y0') (by have := hw2.size; omega)
              have v1 := ext_cell ((World.cell?_of_block (hw2.block b (by omega))).trans y1') (by have := hw2.size; omega)
              clear B5 T5 R5 O5 own5 C5 hw2 y0' y1' q0
              have x0 := B6.ext 0 rfl
              have x1 := B6.ext 1 rfl
              have y0 := T6.ext 0 rfl
              have y1 := T6.ext 1 rfl
              by_cases het : e = t
              · have het' := het.symm
                subst het'
                have hq : ∀ w, (binOp .eql 30 (.agg #[.int .i64 t.1, .int .i64 t.2]) (.agg #[.int .i64 t.1, .int .i64 t.2])).run Try.prog w = .ok (.bool true) w := fun w => by rw [eqv_tk]; simp
                go_wp2_with fail
                refine wp_region_ext (by kernel_rfl) (by kernel_rfl) ?_
                repeat (go_big_quiet_step ((first | (go_at_call 40; exact ext_of (less_c e t _)))))
                refine wpQuiet_nil ?_
                rintro w2 ⟨⟨_, hw2⟩, rfl⟩
                have C7 := bstep C6 hw2
                have R7 := R6.below hw2
                have O7 := O6.below hw2
                have own7 := row_below own6 hw2
                clear x0 x1 y0 y1 v0 v1 B6 T6 R6 O6 own6 C6 hw2 hq het
                have hacc : accT now l t = false := by unfold accT; rw [decide_eq_true (show t ∈ l from (mem_pos HR.out).2 ⟨by rw [HPK.out]; omega, by rw [HPK.out]; exact HE.out⟩)]; simp
                obtain ⟨G1, G2⟩ := acc_no hacc
                have H1 := Lib.hid G1; have H2 := Lib.hid G2
                clear G1 G2 hacc
                have o0 := O7.cell 0 rfl
                have o1 := O7.cell 1 rfl
                have r0 := R7.cell 0 rfl
                have r1 := R7.cell 1 rfl
                have s0 := R7.free 0
                have s1 := R7.free 1
                have hr := Lib.hid (row_ne own7 R7 (by decide))
                go_wp2_with (go_at_call 31; refine (l6In_c _ _ _ _).mono ?_; rintro e w' ⟨rfl, rfl⟩)
                refine bodyPost_ret (v := .tuple #[.agg #[.int .i64 now, .slice a1 n c1], .bool false]) ?_ rfl ?_
                · simp only [results, Try.results33]
                  go_simp
                · rw [H1.out, H2.out]
                  unfold Tried
                  rw [hl]
                  refine ⟨a1, c1, rfl, ?_, ?_⟩
                  · repeat (first | with_reducible exact C7 | with_reducible refine Below.setCell ?_ (by simp <;> omega) _)
                  · refine row_mono ?_ (show w.heap.size ≤ w.heap.size + 1 + 1 + 1 by omega)
                    repeat (first | with_reducible exact own7 | with_reducible refine row_sets ?_ hr.out)
              · have hm : ¬ t ∈ l := fun hm => by
                  have := ((mem_pos HR.out).1 hm).2
                  rw [HPK.out, HE.out] at this
                  exact het this
                have hq : ∀ w, (binOp .eql 30 (.agg #[.int .i64 e.1, .int .i64 e.2]) (.agg #[.int .i64 t.1, .int .i64 t.2])).run Try.prog w = .ok (.bool false) w := fun w => by rw [eqv_tk, decide_eq_false het]
                go_wp2_with fail
                refine wp_region_ext (by kernel_rfl) (by kernel_rfl) ?_
                repeat (go_big_quiet_step ((first | (go_at_call 40; exact ext_of (less_c e t _)))))
                refine wpQuiet_nil ?_
                rintro w2 ⟨⟨_, hw2⟩, rfl⟩
                have C7 := bstep C6 hw2
                have B7 := B6.below hw2
                have T7 := T6.below hw2
                have R7 := R6.below hw2
                have O7 := O6.below hw2
                clear x0 x1 y0 y1 v0 v1 B6 T6 R6 O6 own6 C6 hw2 hq
                have hacc : accT now l t = true := by
                  unfold accT; rw [hb'.out, decide_eq_true (show l.length < 8 by omega), decide_eq_false (hm)]; rfl
                obtain ⟨G1, G2⟩ := acc_yes hacc
                have H1 := Lib.hid G1; have H2 := Lib.hid G2
                clear G1 G2 hacc
                clear hm het
                go_wp2_with fail
                have E1 := (Blk.new w2 #[] 30).drew
                have E2 := ((Blk.new w2 #[] 30).alloc (Obj.cells #[.int .i64 t.1, .int .i64 t.2] 30)).drew
                have E3 := (Blk.new (w2.alloc (Obj.cells #[.int .i64 t.1, .int .i64 t.2] 30)) #[] 30).drew
                have N2 := (Blk.new (w2.alloc (Obj.cells #[] 30)) #[.int .i64 t.1, .int .i64 t.2] 30).drew
                have N3 := ((Blk.new w2 #[.int .i64 t.1, .int .i64 t.2] 30).alloc (Obj.cells #[] 30)).drew
                rw [World.size_alloc] at E3 N2
                have Bp := (B7.alloc (Obj.cells #[] 30)).drew
                have Bq := ((B7.alloc (Obj.cells #[] 30)).alloc (Obj.cells #[.int .i64 t.1, .int .i64 t.2] 30)).drew
                have Br := ((B7.alloc (Obj.cells #[.int .i64 t.1, .int .i64 t.2] 30)).alloc (Obj.cells #[] 30)).drew
                have Bs := (B7.alloc (Obj.cells #[.int .i64 t.1, .int .i64 t.2] 30)).drew
                have Bd := B7.drew
                have Tp := (T7.alloc (Obj.cells #[] 30)).drew
                have Tq := ((T7.alloc (Obj.cells #[] 30)).alloc (Obj.cells #[.int .i64 t.1, .int .i64 t.2] 30)).drew
                have Tr := ((T7.alloc (Obj.cells #[.int .i64 t.1, .int .i64 t.2] 30)).alloc (Obj.cells #[] 30)).drew
                have Ts := (T7.alloc (Obj.cells #[.int .i64 t.1, .int .i64 t.2] 30)).drew
                have Td := T7.drew
                have Rp := (R7.alloc (Obj.cells #[] 30)).drew
                have Rq := ((R7.alloc (Obj.cells #[] 30)).alloc (Obj.cells #[.int .i64 t.1, .int .i64 t.2] 30)).drew
                have Rr := ((R7.alloc (Obj.cells #[.int .i64 t.1, .int .i64 t.2] 30)).alloc (Obj.cells #[] 30)).drew
                have Rs := (R7.alloc (Obj.cells #[.int .i64 t.1, .int .i64 t.2] 30)).drew
                have Rd := R7.drew
                have Op := (O7.alloc (Obj.cells #[] 30)).drew
                have Oq := ((O7.alloc (Obj.cells #[] 30)).alloc (Obj.cells #[.int .i64 t.1, .int .i64 t.2] 30)).drew
                have Or := ((O7.alloc (Obj.cells #[.int .i64 t.1, .int .i64 t.2] 30)).alloc (Obj.cells #[] 30)).drew
                have Os := (O7.alloc (Obj.cells #[.int .i64 t.1, .int .i64 t.2] 30)).drew
                have Od := O7.drew
                have Cp := bdrew (bpush C7 (Obj.cells #[] 30))
                have Cq := bdrew (bpush (bpush C7 (Obj.cells #[] 30)) (Obj.cells #[.int .i64 t.1, .int .i64 t.2] 30))
                have Cr := bdrew (bpush (bpush C7 (Obj.cells #[.int .i64 t.1, .int .i64 t.2] 30)) (Obj.cells #[] 30))
                have q0 := R7.lt
                have q1 := O7.lt
                have n0 : w.heap.size + 1 + 1 + 1 ≤ w2.heap.size := by omega
                have own1a := own_made (base := w.heap.size + 1 + 1 + 1) E1 (by omega)
                have own2a := own_made (base := w.heap.size + 1 + 1 + 1) E2 (by omega)
                have own3a := own_made (base := w.heap.size + 1 + 1 + 1) E3 (by omega)
                have s1 : w.heap.size + 1 + 1 + 1 ≤ ((w2.alloc (Obj.cells #[] 30)).drew).heap.size := by simp; omega
                have s2 : w.heap.size + 1 + 1 + 1 ≤ (((w2.alloc (Obj.cells #[] 30)).alloc (Obj.cells #[.int .i64 t.1, .int .i64 t.2] 30)).drew).heap.size := by simp; omega
                have s3 : w.heap.size + 1 + 1 + 1 ≤ (((w2.alloc (Obj.cells #[.int .i64 t.1, .int .i64 t.2] 30)).alloc (Obj.cells #[] 30)).drew).heap.size := by simp; omega
                have z1 := (HS.out.below Cp).take hkn
                have z2 := (HS.out.below Cq).take hkn
                have z3 := (HS.out.below Cr).take hkn
                have hlk : (l.take k).length = k := by rw [List.length_take]; omega
                have hld : (l.drop k).length = (n - k) := by rw [List.length_drop]; omega
                have fl2 : flat (l.take k) ++ flat [t] = flat (l.take k ++ [t]) := (flat_append _ _).symm
                have fl3 : flat (l.take k ++ [t]) ++ flat (l.drop k) = flat (l.take k ++ t :: l.drop k) := by rw [← flat_append, List.append_assoc]; rfl
                have HF2 := Lib.hid fl2; have HF3 := Lib.hid fl3; have HLK := Lib.hid hlk; have HLD := Lib.hid hld
                clear fl2 fl3 hlk hld
                have hBO : w.heap.size ≠ O := by omega
                have hTO : w.heap.size + 1 ≠ O := by omega
                have hRO : w.heap.size + 1 + 1 ≠ O := by omega
                have k0 : (0 : Int) ≤ (k : Int) := by omega
                have k1 : (k : Int) ≤ (n : Int) := by omega
                have k2 : (k : Int) ≤ (cap : Int) := by omega
                go_region_held3 (fun w' => w'.cell? ⟨w.heap.size, 1, none⟩ = some (.slice (some ⟨b, off, none⟩) n cap) ∧ w'.cell? ⟨w.heap.size + 1, 0, none⟩ = some (.int .i64 t.1) ∧ w'.cell? ⟨w.heap.size + 1, 1, none⟩ = some (.int .i64 t.2))
                  (first | exact ⟨B7.cell 1 rfl, T7.cell 0 rfl, T7.cell 1 rfl⟩ | exact ⟨Bp.cell 1 rfl, Tp.cell 0 rfl, Tp.cell 1 rfl⟩ | exact ⟨Bq.cell 1 rfl, Tq.cell 0 rfl, Tq.cell 1 rfl⟩ | exact ⟨Br.cell 1 rfl, Tr.cell 0 rfl, Tr.cell 1 rfl⟩ | exact ⟨Bs.cell 1 rfl, Ts.cell 0 rfl, Ts.cell 1 rfl⟩ | exact ⟨Bd.cell 1 rfl, Td.cell 0 rfl, Td.cell 1 rfl⟩ | exact ⟨B1'.cell 1 rfl, T1'.cell 0 rfl, T1'.cell 1 rfl⟩ | exact ⟨B2'.cell 1 rfl, T2'.cell 0 rfl, T2'.cell 1 rfl⟩ | exact ⟨B3'.cell 1 rfl, T3'.cell 0 rfl, T3'.cell 1 rfl⟩ | exact ⟨(B1'.alloc _).cell 1 rfl, (T1'.alloc _).cell 0 rfl, (T1'.alloc _).cell 1 rfl⟩ | exact ⟨(B3'.other hBO _ _).cell 1 rfl, (T3'.other hTO _ _).cell 0 rfl, (T3'.other hTO _ _).cell 1 rfl⟩ | go_keep)
                  (first | (refine step_app (by rfl) _ _ (by rfl) (w.heap.size + 1 + 1 + 1) _ 0 [] (some ⟨b, off, none⟩) k _ w.heap.size (l.take k) (by rfl) (by rfl) own1a z1 HLK.out (by omega) s1 k (flat (l.take k)) (by omega) (by simp) ?_; intro b1 d1 u1 own1' hg1; have B1' := Bp.grown hg1 (nb_lit (by omega)); have T1' := Tp.grown hg1 (nb_lit (by omega)); have R1' := Rp.grown hg1 (nb_lit (by omega)); have O1' := Op.grown hg1 (nb_lit (by omega)); have C1' := Cp.grown hg1 (Cp.size) (fun k h => by simp only [Value.ownBlock, Option.some.injEq] at h; omega); have n1 : w.heap.size + 1 + 1 + 1 ≤ u1.heap.size := (by have := R1'.lt; omega)) | (refine step_app (by rfl) _ _ (by rfl) (w.heap.size + 1 + 1 + 1) _ 0 [] (some ⟨b, off, none⟩) k _ w.heap.size (l.take k) (by rfl) (by rfl) own2a z2 HLK.out (by omega) s2 k (flat (l.take k)) (by omega) (by simp) ?_; intro b1 d1 u1 own1' hg1; have B1' := Bq.grown hg1 (nb_lit (by omega)); have T1' := Tq.grown hg1 (nb_lit (by omega)); have R1' := Rq.grown hg1 (nb_lit (by omega)); have O1' := Oq.grown hg1 (nb_lit (by omega)); have C1' := Cq.grown hg1 (Cq.size) (fun k h => by simp only [Value.ownBlock, Option.some.injEq] at h; omega); have N1' := N2.grown hg1 (nb_lit (by omega)); have n1 : w.heap.size + 1 + 1 + 1 ≤ u1.heap.size := (by have := R1'.lt; omega)) | (refine step_app (by rfl) _ _ (by rfl) (w.heap.size + 1 + 1 + 1) _ 0 [] (some ⟨b, off, none⟩) k _ w.heap.size (l.take k) (by rfl) (by rfl) own3a z3 HLK.out (by omega) s3 k (flat (l.take k)) (by omega) (by simp) ?_; intro b1 d1 u1 own1' hg1; have B1' := Br.grown hg1 (nb_lit (by omega)); have T1' := Tr.grown hg1 (nb_lit (by omega)); have R1' := Rr.grown hg1 (nb_lit (by omega)); have O1' := Or.grown hg1 (nb_lit (by omega)); have C1' := Cr.grown hg1 (Cr.size) (fun k h => by simp only [Value.ownBlock, Option.some.injEq] at h; omega); have N1' := N3.grown hg1 (nb_lit (by omega)); have n1 : w.heap.size + 1 + 1 + 1 ≤ u1.heap.size := (by have := R1'.lt; omega)) | (refine step_app (by rfl) _ _ (by rfl) (w.heap.size + 1 + 1 + 1) _ k (flat (l.take k)) _ 1 1 _ [t] (by rfl) (by rfl) (own1'.alloc (Obj.cells #[.int .i64 t.1, .int .i64 t.2] 30)) (sl_one (Blk.new u1 #[.int .i64 t.1, .int .i64 t.2] 30)) rfl (by omega) (by simp; omega) (k + 1) (flat (l.take k ++ [t])) rfl HF2.out ?_; intro b2 d2 u2 own2' hg2; have B2' := ((B1'.alloc (Obj.cells #[.int .i64 t.1, .int .i64 t.2] 30))).grown hg2 (row_ne (own1'.alloc (Obj.cells #[.int .i64 t.1, .int .i64 t.2] 30)) (B1'.alloc (Obj.cells #[.int .i64 t.1, .int .i64 t.2] 30)) (by decide)); have T2' := ((T1'.alloc (Obj.cells #[.int .i64 t.1, .int .i64 t.2] 30))).grown hg2 (fun h => by have := (own1'.lt _ h).1; omega); have R2' := ((R1'.alloc (Obj.cells #[.int .i64 t.1, .int .i64 t.2] 30))).grown hg2 (row_ne (own1'.alloc (Obj.cells #[.int .i64 t.1, .int .i64 t.2] 30)) (R1'.alloc (Obj.cells #[.int .i64 t.1, .int .i64 t.2] 30)) (by decide)); have O2' := ((O1'.alloc (Obj.cells #[.int .i64 t.1, .int .i64 t.2] 30))).grown hg2 (row_ne (own1'.alloc (Obj.cells #[.int .i64 t.1, .int .i64 t.2] 30)) (O1'.alloc (Obj.cells #[.int .i64 t.1, .int .i64 t.2] 30)) (by decide)); have C2' := (bpush C1' (Obj.cells #[.int .i64 t.1, .int .i64 t.2] 30)).grown hg2 (bpush C1' (Obj.cells #[.int .i64 t.1, .int .i64 t.2] 30)).size (fun k h => by have := (own1'.lt _ h).1; omega); have n2 : w.heap.size + 1 + 1 + 1 ≤ u2.heap.size := (by have := R2'.lt; omega); have z4 := HS.out.below C2'; have o20 := O2'.cell 0 rfl) | (refine step_app (by rfl) _ _ (by rfl) (w.heap.size + 1 + 1 + 1) _ k (flat (l.take k)) _ 1 1 _ [t] (by rfl) (by rfl) own1' (sl_one N1') rfl (by omega) n1 (k + 1) (flat (l.take k ++ [t])) rfl HF2.out ?_; intro b2 d2 u2 own2' hg2; have B2' := ((B1')).grown hg2 (row_ne own1' (B1') (by decide)); have T2' := ((T1')).grown hg2 (fun h => by have := (own1'.lt _ h).1; omega); have R2' := ((R1')).grown hg2 (row_ne own1' (R1') (by decide)); have O2' := ((O1')).grown hg2 (row_ne own1' (O1') (by decide)); have C2' := C1'.grown hg2 C1'.size (fun k h => by have := (own1'.lt _ h).1; omega); have n2 : w.heap.size + 1 + 1 + 1 ≤ u2.heap.size := (by have := R2'.lt; omega); have z4 := HS.out.below C2'; have o20 := O2'.cell 0 rfl) | (refine step_app (by rfl) _ _ (by rfl) (w.heap.size + 1 + 1 + 1) _ (k + 1) (flat (l.take k ++ [t])) _ (n - k) _ w.heap.size (l.drop k) (by rfl) (by rfl) own2' ((HS.out.below C2').drop_at hkn) HLD.out (by omega) n2 (n + 1) (flat (l.take k ++ t :: l.drop k)) (by omega) HF3.out ?_; intro b3 d3 u3 own3' hg3; have B3' := B2'.grown hg3 (row_ne own2' B2' (by decide)); have T3' := T2'.grown hg3 (fun h => by have := (own2'.lt _ h).1; omega); have R3' := R2'.grown hg3 (row_ne own2' R2' (by decide)); have O3' := O2'.grown hg3 (row_ne own2' O2' (by decide)); have C3' := C2'.grown hg3 C2'.size (fun k h => by have := (own2'.lt _ h).1; omega); have g30 := O3'.cell 0 rfl; have g31 := O3'.cell 1 rfl; have g32 := O3'.free 1))
                all_goals
                  have hr := Lib.hid (row_ne own3' R3' (by decide))
                  have ho := Lib.hid (row_ne own3' O3' (by decide))
                  have O5 := O3'.set 1 (.slice b3 (n + 1) d3)
                  have R5 := R3'.other hRO 1 (.slice b3 (n + 1) d3)
                  have o50 := O5.cell 0 rfl
                  have o51 := O5.cell 1 rfl
                  have r50 := R5.cell 0 rfl
                  have r51 := R5.cell 1 rfl
                  have r52 := R5.free 0
                  have r53 := R5.free 1
                  go_wp2_with fail
                  refine bodyPost_ret (v := .tuple #[.agg #[.int .i64 now, .slice b3 (n + 1) d3], .bool true]) ?_ rfl ?_
                  · simp only [results, Try.results33]
                    go_simp
                  · rw [H1.out, H2.out]
                    unfold Tried
                    rw [insT_length, hl, insT_eq, HPK.out]
                    refine ⟨b3, d3, rfl, ?_, ?_⟩
                    · repeat (first | with_reducible exact C3' | with_reducible refine Below.setCell ?_ (by simp <;> omega) _)
                    · refine row_mono ?_ (show w.heap.size ≤ w.heap.size + 1 + 1 + 1 by omega)
                      repeat (first | with_reducible exact own3' | with_reducible refine row_sets ?_ hr.out | with_reducible refine row_sets ?_ ho.out)
            · have hPk : k < P := by
                rw [← HP.out]
                exact posT_mono HR.out (by omega) (by rw [HE.out]; exact hle)
              subst ha
              go_wp2_with fail
              refine wp_region_ext (by kernel_rfl) (by kernel_rfl) ?_
              repeat (go_big_quiet_step ((first | (go_at_call 40; exact ext_of (less_c e t _)))))
              refine wpQuiet_nil ?_
              rintro w2 ⟨⟨_, hw2⟩, rfl⟩
              clear x0 x1 y0 y1 v0 v1 y0' y1' hle
              go_wp2_with fail
              go_roundw
              case rel => exact ⟨k + 1, by omega, by go_num, bstep C5 hw2, B5.below hw2, T5.below hw2, R5.below hw2, O5.below hw2, row_below own5 hw2⟩
              case measure => simp [intOf]; omega
          · obtain rfl : k = n := by omega
            obtain rfl : P = k := by omega
            have HPK := Lib.hid HP.out
            have hki : ¬ (P : Int) < (P : Int) := by omega
            have q0 := B5.lt
            have x0 := B5.ext 0 rfl
            have x1 := B5.ext 1 rfl
            have y0 := T5.ext 0 rfl
            have y1 := T5.ext 1 rfl
            go_wp2_with fail
            refine wp_region_ext (by kernel_rfl) (by kernel_rfl) ?_
            repeat (go_big_quiet_step ((first | (go_at_call 40; exact ext_of (less_c _ t _)))))
            refine wpQuiet_nil ?_
            rintro w2 ⟨⟨_, hw2⟩, rfl⟩
            clear x0 x1 y0 y1
            have C6 := bstep C5 hw2
            have B6 := B5.below hw2
            have T6 := T5.below hw2
            have R6 := R5.below hw2
            have O6 := O5.below hw2
            clear B5 T5 R5 O5 own5 C5 hw2 q0
            have x0 := B6.ext 0 rfl
            have x1 := B6.ext 1 rfl
            have y0 := T6.ext 0 rfl
            have y1 := T6.ext 1 rfl
            go_wp2_with fail
            refine wp_region_ext (by kernel_rfl) (by kernel_rfl) ?_
            repeat (go_big_quiet_step ((first | (go_at_call 40; exact ext_of (less_c _ t _)))))
            refine wpQuiet_nil ?_
            rintro w2 ⟨⟨_, hw2⟩, rfl⟩
            have C7 := bstep C6 hw2
            have B7 := B6.below hw2
            have T7 := T6.below hw2
            have R7 := R6.below hw2
            have O7 := O6.below hw2
            clear x0 x1 y0 y1 B6 T6 R6 O6 C6 hw2
            have hm : ¬ t ∈ l := fun hm => by
              have := ((mem_pos HR.out).1 hm).1
              rw [HPK.out] at this
              omega
            have hacc : accT now l t = true := by
              unfold accT; rw [hb'.out, decide_eq_true (show l.length < 8 by omega), decide_eq_false (hm)]; rfl
            obtain ⟨G1, G2⟩ := acc_yes hacc
            have H1 := Lib.hid G1; have H2 := Lib.hid G2
            clear G1 G2 hacc
            clear hm
            by_cases hck : cap = P
            · have hck' := hck.symm
              subst hck'
              clear hck
              go_wp2_with fail
              have E1 := (Blk.new w2 #[] 30).drew
              have E2 := ((Blk.new w2 #[] 30).alloc (Obj.cells #[.int .i64 t.1, .int .i64 t.2] 30)).drew
              have E3 := (Blk.new (w2.alloc (Obj.cells #[.int .i64 t.1, .int .i64 t.2] 30)) #[] 30).drew
              have N2 := (Blk.new (w2.alloc (Obj.cells #[] 30)) #[.int .i64 t.1, .int .i64 t.2] 30).drew
              have N3 := ((Blk.new w2 #[.int .i64 t.1, .int .i64 t.2] 30).alloc (Obj.cells #[] 30)).drew
              rw [World.size_alloc] at E3 N2
              have Bp := (B7.alloc (Obj.cells #[] 30)).drew
              have Bq := ((B7.alloc (Obj.cells #[] 30)).alloc (Obj.cells #[.int .i64 t.1, .int .i64 t.2] 30)).drew
              have Br := ((B7.alloc (Obj.cells #[.int .i64 t.1, .int .i64 t.2] 30)).alloc (Obj.cells #[] 30)).drew
              have Bs := (B7.alloc (Obj.cells #[.int .i64 t.1, .int .i64 t.2] 30)).drew
              have Bd := B7.drew
              have Tp := (T7.alloc (Obj.cells #[] 30)).drew
              have Tq := ((T7.alloc (Obj.cells #[] 30)).alloc (Obj.cells #[.int .i64 t.1, .int .i64 t.2] 30)).drew
              have Tr := ((T7.alloc (Obj.cells #[.int .i64 t.1, .int .i64 t.2] 30)).alloc (Obj.cells #[] 30)).drew
              have Ts := (T7.alloc (Obj.cells #[.int .i64 t.1, .int .i64 t.2] 30)).drew
              have Td := T7.drew
              have Rp := (R7.alloc (Obj.cells #[] 30)).drew
              have Rq := ((R7.alloc (Obj.cells #[] 30)).alloc (Obj.cells #[.int .i64 t.1, .int .i64 t.2] 30)).drew
              have Rr := ((R7.alloc (Obj.cells #[.int .i64 t.1, .int .i64 t.2] 30)).alloc (Obj.cells #[] 30)).drew
              have Rs := (R7.alloc (Obj.cells #[.int .i64 t.1, .int .i64 t.2] 30)).drew
              have Rd := R7.drew
              have Op := (O7.alloc (Obj.cells #[] 30)).drew
              have Oq := ((O7.alloc (Obj.cells #[] 30)).alloc (Obj.cells #[.int .i64 t.1, .int .i64 t.2] 30)).drew
              have Or := ((O7.alloc (Obj.cells #[.int .i64 t.1, .int .i64 t.2] 30)).alloc (Obj.cells #[] 30)).drew
              have Os := (O7.alloc (Obj.cells #[.int .i64 t.1, .int .i64 t.2] 30)).drew
              have Od := O7.drew
              have Cp := bdrew (bpush C7 (Obj.cells #[] 30))
              have Cq := bdrew (bpush (bpush C7 (Obj.cells #[] 30)) (Obj.cells #[.int .i64 t.1, .int .i64 t.2] 30))
              have Cr := bdrew (bpush (bpush C7 (Obj.cells #[.int .i64 t.1, .int .i64 t.2] 30)) (Obj.cells #[] 30))
              have q0 := R7.lt
              have q1 := O7.lt
              have n0 : w.heap.size + 1 + 1 + 1 ≤ w2.heap.size := by omega
              have own1a := own_made (base := w.heap.size + 1 + 1 + 1) E1 (by omega)
              have own2a := own_made (base := w.heap.size + 1 + 1 + 1) E2 (by omega)
              have own3a := own_made (base := w.heap.size + 1 + 1 + 1) E3 (by omega)
              have s1 : w.heap.size + 1 + 1 + 1 ≤ ((w2.alloc (Obj.cells #[] 30)).drew).heap.size := by simp; omega
              have s2 : w.heap.size + 1 + 1 + 1 ≤ (((w2.alloc (Obj.cells #[] 30)).alloc (Obj.cells #[.int .i64 t.1, .int .i64 t.2] 30)).drew).heap.size := by simp; omega
              have s3 : w.heap.size + 1 + 1 + 1 ≤ (((w2.alloc (Obj.cells #[.int .i64 t.1, .int .i64 t.2] 30)).alloc (Obj.cells #[] 30)).drew).heap.size := by simp; omega
              have z1 := (HS.out.below Cp).take hkn
              have z2 := (HS.out.below Cq).take hkn
              have z3 := (HS.out.below Cr).take hkn
              have hlk : (l.take P).length = P := by rw [List.length_take]; omega
              have hld : (l.drop P).length = 0 := by rw [List.length_drop]; omega
              have fl2 : flat (l.take P) ++ flat [t] = flat (l.take P ++ [t]) := (flat_append _ _).symm
              have fl3 : flat (l.take P ++ [t]) ++ flat (l.drop P) = flat (l.take P ++ t :: l.drop P) := by rw [← flat_append, List.append_assoc]; rfl
              have HF2 := Lib.hid fl2; have HF3 := Lib.hid fl3; have HLK := Lib.hid hlk; have HLD := Lib.hid hld
              clear fl2 fl3 hlk hld
              have hBO : w.heap.size ≠ O := by omega
              have hTO : w.heap.size + 1 ≠ O := by omega
              have hRO : w.heap.size + 1 + 1 ≠ O := by omega
              have k0 : (0 : Int) ≤ (P : Int) := by omega
              have k1 : (P : Int) ≤ (P : Int) := by omega
              have k2 : (P : Int) ≤ (P : Int) := by omega
              go_region_held3 (fun w' => w'.cell? ⟨w.heap.size, 1, none⟩ = some (.slice a P P) ∧ w'.cell? ⟨w.heap.size + 1, 0, none⟩ = some (.int .i64 t.1) ∧ w'.cell? ⟨w.heap.size + 1, 1, none⟩ = some (.int .i64 t.2))
                (first | exact ⟨B7.cell 1 rfl, T7.cell 0 rfl, T7.cell 1 rfl⟩ | exact ⟨Bp.cell 1 rfl, Tp.cell 0 rfl, Tp.cell 1 rfl⟩ | exact ⟨Bq.cell 1 rfl, Tq.cell 0 rfl, Tq.cell 1 rfl⟩ | exact ⟨Br.cell 1 rfl, Tr.cell 0 rfl, Tr.cell 1 rfl⟩ | exact ⟨Bs.cell 1 rfl, Ts.cell 0 rfl, Ts.cell 1 rfl⟩ | exact ⟨Bd.cell 1 rfl, Td.cell 0 rfl, Td.cell 1 rfl⟩ | exact ⟨B1'.cell 1 rfl, T1'.cell 0 rfl, T1'.cell 1 rfl⟩ | exact ⟨B2'.cell 1 rfl, T2'.cell 0 rfl, T2'.cell 1 rfl⟩ | exact ⟨B3'.cell 1 rfl, T3'.cell 0 rfl, T3'.cell 1 rfl⟩ | exact ⟨(B1'.alloc _).cell 1 rfl, (T1'.alloc _).cell 0 rfl, (T1'.alloc _).cell 1 rfl⟩ | exact ⟨(B3'.other hBO _ _).cell 1 rfl, (T3'.other hTO _ _).cell 0 rfl, (T3'.other hTO _ _).cell 1 rfl⟩ | go_keep)
                (first | (refine step_app (by rfl) _ _ (by rfl) (w.heap.size + 1 + 1 + 1) _ 0 [] a P _ w.heap.size (l.take P) (by rfl) (by rfl) own1a z1 HLK.out (by omega) s1 P (flat (l.take P)) (by omega) (by simp) ?_; intro b1 d1 u1 own1' hg1; have B1' := Bp.grown hg1 (nb_lit (by omega)); have T1' := Tp.grown hg1 (nb_lit (by omega)); have R1' := Rp.grown hg1 (nb_lit (by omega)); have O1' := Op.grown hg1 (nb_lit (by omega)); have C1' := Cp.grown hg1 (Cp.size) (fun P h => by simp only [Value.ownBlock, Option.some.injEq] at h; omega); have n1 : w.heap.size + 1 + 1 + 1 ≤ u1.heap.size := (by have := R1'.lt; omega)) | (refine step_app (by rfl) _ _ (by rfl) (w.heap.size + 1 + 1 + 1) _ 0 [] a P _ w.heap.size (l.take P) (by rfl) (by rfl) own2a z2 HLK.out (by omega) s2 P (flat (l.take P)) (by omega) (by simp) ?_; intro b1 d1 u1 own1' hg1; have B1' := Bq.grown hg1 (nb_lit (by omega)); have T1' := Tq.grown hg1 (nb_lit (by omega)); have R1' := Rq.grown hg1 (nb_lit (by omega)); have O1' := Oq.grown hg1 (nb_lit (by omega)); have C1' := Cq.grown hg1 (Cq.size) (fun P h => by simp only [Value.ownBlock, Option.some.injEq] at h; omega); have N1' := N2.grown hg1 (nb_lit (by omega)); have n1 : w.heap.size + 1 + 1 + 1 ≤ u1.heap.size := (by have := R1'.lt; omega)) | (refine step_app (by rfl) _ _ (by rfl) (w.heap.size + 1 + 1 + 1) _ 0 [] a P _ w.heap.size (l.take P) (by rfl) (by rfl) own3a z3 HLK.out (by omega) s3 P (flat (l.take P)) (by omega) (by simp) ?_; intro b1 d1 u1 own1' hg1; have B1' := Br.grown hg1 (nb_lit (by omega)); have T1' := Tr.grown hg1 (nb_lit (by omega)); have R1' := Rr.grown hg1 (nb_lit (by omega)); have O1' := Or.grown hg1 (nb_lit (by omega)); have C1' := Cr.grown hg1 (Cr.size) (fun P h => by simp only [Value.ownBlock, Option.some.injEq] at h; omega); have N1' := N3.grown hg1 (nb_lit (by omega)); have n1 : w.heap.size + 1 + 1 + 1 ≤ u1.heap.size := (by have := R1'.lt; omega)) | (refine step_app (by rfl) _ _ (by rfl) (w.heap.size + 1 + 1 + 1) _ P (flat (l.take P)) _ 1 1 _ [t] (by rfl) (by rfl) (own1'.alloc (Obj.cells #[.int .i64 t.1, .int .i64 t.2] 30)) (sl_one (Blk.new u1 #[.int .i64 t.1, .int .i64 t.2] 30)) rfl (by omega) (by simp; omega) (P + 1) (flat (l.take P ++ [t])) rfl HF2.out ?_; intro b2 d2 u2 own2' hg2; have B2' := ((B1'.alloc (Obj.cells #[.int .i64 t.1, .int .i64 t.2] 30))).grown hg2 (row_ne (own1'.alloc (Obj.cells #[.int .i64 t.1, .int .i64 t.2] 30)) (B1'.alloc (Obj.cells #[.int .i64 t.1, .int .i64 t.2] 30)) (by decide)); have T2' := ((T1'.alloc (Obj.cells #[.int .i64 t.1, .int .i64 t.2] 30))).grown hg2 (fun h => by have := (own1'.lt _ h).1; omega); have R2' := ((R1'.alloc (Obj.cells #[.int .i64 t.1, .int .i64 t.2] 30))).grown hg2 (row_ne (own1'.alloc (Obj.cells #[.int .i64 t.1, .int .i64 t.2] 30)) (R1'.alloc (Obj.cells #[.int .i64 t.1, .int .i64 t.2] 30)) (by decide)); have O2' := ((O1'.alloc (Obj.cells #[.int .i64 t.1, .int .i64 t.2] 30))).grown hg2 (row_ne (own1'.alloc (Obj.cells #[.int .i64 t.1, .int .i64 t.2] 30)) (O1'.alloc (Obj.cells #[.int .i64 t.1, .int .i64 t.2] 30)) (by decide)); have C2' := (bpush C1' (Obj.cells #[.int .i64 t.1, .int .i64 t.2] 30)).grown hg2 (bpush C1' (Obj.cells #[.int .i64 t.1, .int .i64 t.2] 30)).size (fun P h => by have := (own1'.lt _ h).1; omega); have n2 : w.heap.size + 1 + 1 + 1 ≤ u2.heap.size := (by have := R2'.lt; omega); have z4 := HS.out.below C2'; have o20 := O2'.cell 0 rfl) | (refine step_app (by rfl) _ _ (by rfl) (w.heap.size + 1 + 1 + 1) _ P (flat (l.take P)) _ 1 1 _ [t] (by rfl) (by rfl) own1' (sl_one N1') rfl (by omega) n1 (P + 1) (flat (l.take P ++ [t])) rfl HF2.out ?_; intro b2 d2 u2 own2' hg2; have B2' := ((B1')).grown hg2 (row_ne own1' (B1') (by decide)); have T2' := ((T1')).grown hg2 (fun h => by have := (own1'.lt _ h).1; omega); have R2' := ((R1')).grown hg2 (row_ne own1' (R1') (by decide)); have O2' := ((O1')).grown hg2 (row_ne own1' (O1') (by decide)); have C2' := C1'.grown hg2 C1'.size (fun P h => by have := (own1'.lt _ h).1; omega); have n2 : w.heap.size + 1 + 1 + 1 ≤ u2.heap.size := (by have := R2'.lt; omega); have z4 := HS.out.below C2'; have o20 := O2'.cell 0 rfl) | (refine step_app (by rfl) _ _ (by rfl) (w.heap.size + 1 + 1 + 1) _ (P + 1) (flat (l.take P ++ [t])) _ 0 _ w.heap.size (l.drop P) (by rfl) (by rfl) own2' (sl_zero _ _ _ _) HLD.out (by omega) n2 (P + 1) (flat (l.take P ++ t :: l.drop P)) (by omega) HF3.out ?_; intro b3 d3 u3 own3' hg3; have B3' := B2'.grown hg3 (row_ne own2' B2' (by decide)); have T3' := T2'.grown hg3 (fun h => by have := (own2'.lt _ h).1; omega); have R3' := R2'.grown hg3 (row_ne own2' R2' (by decide)); have O3' := O2'.grown hg3 (row_ne own2' O2' (by decide)); have C3' := C2'.grown hg3 C2'.size (fun P h => by have := (own2'.lt _ h).1; omega); have g30 := O3'.cell 0 rfl; have g31 := O3'.cell 1 rfl; have g32 := O3'.free 1))
              all_goals
                have hr := Lib.hid (row_ne own3' R3' (by decide))
                have ho := Lib.hid (row_ne own3' O3' (by decide))
                have O5 := O3'.set 1 (.slice b3 (P + 1) d3)
                have R5 := R3'.other hRO 1 (.slice b3 (P + 1) d3)
                have o50 := O5.cell 0 rfl
                have o51 := O5.cell 1 rfl
                have r50 := R5.cell 0 rfl
                have r51 := R5.cell 1 rfl
                have r52 := R5.free 0
                have r53 := R5.free 1
                go_wp2_with fail
                refine bodyPost_ret (v := .tuple #[.agg #[.int .i64 now, .slice b3 (P + 1) d3], .bool true]) ?_ rfl ?_
                · simp only [results, Try.results33]
                  go_simp
                · rw [H1.out, H2.out]
                  unfold Tried
                  rw [insT_length, hl, insT_eq, HPK.out]
                  refine ⟨b3, d3, rfl, ?_, ?_⟩
                  · repeat (first | with_reducible exact C3' | with_reducible refine Below.setCell ?_ (by simp <;> omega) _)
                  · refine row_mono ?_ (show w.heap.size ≤ w.heap.size + 1 + 1 + 1 by omega)
                    repeat (first | with_reducible exact own3' | with_reducible refine row_sets ?_ hr.out | with_reducible refine row_sets ?_ ho.out)
            · go_wp2_with fail
              have E1 := (Blk.new w2 #[] 30).drew
              have E2 := ((Blk.new w2 #[] 30).alloc (Obj.cells #[.int .i64 t.1, .int .i64 t.2] 30)).drew
              have E3 := (Blk.new (w2.alloc (Obj.cells #[.int .i64 t.1, .int .i64 t.2] 30)) #[] 30).drew
              have N2 := (Blk.new (w2.alloc (Obj.cells #[] 30)) #[.int .i64 t.1, .int .i64 t.2] 30).drew
              have N3 := ((Blk.new w2 #[.int .i64 t.1, .int .i64 t.2] 30).alloc (Obj.cells #[] 30)).drew
              rw [World.size_alloc] at E3 N2
              have Bp := (B7.alloc (Obj.cells #[] 30)).drew
              have Bq := ((B7.alloc (Obj.cells #[] 30)).alloc (Obj.cells #[.int .i64 t.1, .int .i64 t.2] 30)).drew
              have Br := ((B7.alloc (Obj.cells #[.int .i64 t.1, .int .i64 t.2] 30)).alloc (Obj.cells #[] 30)).drew
              have Bs := (B7.alloc (Obj.cells #[.int .i64 t.1, .int .i64 t.2] 30)).drew
              have Bd := B7.drew
              have Tp := (T7.alloc (Obj.cells #[] 30)).drew
              have Tq := ((T7.alloc (Obj.cells #[] 30)).alloc (Obj.cells #[.int .i64 t.1, .int .i64 t.2] 30)).drew
              have Tr := ((T7.alloc (Obj.cells #[.int .i64 t.1, .int .i64 t.2] 30)).alloc (Obj.cells #[] 30)).drew
              have Ts := (T7.alloc (Obj.cells #[.int .i64 t.1, .int .i64 t.2] 30)).drew
              have Td := T7.drew
              have Rp := (R7.alloc (Obj.cells #[] 30)).drew
              have Rq := ((R7.alloc (Obj.cells #[] 30)).alloc (Obj.cells #[.int .i64 t.1, .int .i64 t.2] 30)).drew
              have Rr := ((R7.alloc (Obj.cells #[.int .i64 t.1, .int .i64 t.2] 30)).alloc (Obj.cells #[] 30)).drew
              have Rs := (R7.alloc (Obj.cells #[.int .i64 t.1, .int .i64 t.2] 30)).drew
              have Rd := R7.drew
              have Op := (O7.alloc (Obj.cells #[] 30)).drew
              have Oq := ((O7.alloc (Obj.cells #[] 30)).alloc (Obj.cells #[.int .i64 t.1, .int .i64 t.2] 30)).drew
              have Or := ((O7.alloc (Obj.cells #[.int .i64 t.1, .int .i64 t.2] 30)).alloc (Obj.cells #[] 30)).drew
              have Os := (O7.alloc (Obj.cells #[.int .i64 t.1, .int .i64 t.2] 30)).drew
              have Od := O7.drew
              have Cp := bdrew (bpush C7 (Obj.cells #[] 30))
              have Cq := bdrew (bpush (bpush C7 (Obj.cells #[] 30)) (Obj.cells #[.int .i64 t.1, .int .i64 t.2] 30))
              have Cr := bdrew (bpush (bpush C7 (Obj.cells #[.int .i64 t.1, .int .i64 t.2] 30)) (Obj.cells #[] 30))
              have q0 := R7.lt
              have q1 := O7.lt
              have n0 : w.heap.size + 1 + 1 + 1 ≤ w2.heap.size := by omega
              have own1a := own_made (base := w.heap.size + 1 + 1 + 1) E1 (by omega)
              have own2a := own_made (base := w.heap.size + 1 + 1 + 1) E2 (by omega)
              have own3a := own_made (base := w.heap.size + 1 + 1 + 1) E3 (by omega)
              have s1 : w.heap.size + 1 + 1 + 1 ≤ ((w2.alloc (Obj.cells #[] 30)).drew).heap.size := by simp; omega
              have s2 : w.heap.size + 1 + 1 + 1 ≤ (((w2.alloc (Obj.cells #[] 30)).alloc (Obj.cells #[.int .i64 t.1, .int .i64 t.2] 30)).drew).heap.size := by simp; omega
              have s3 : w.heap.size + 1 + 1 + 1 ≤ (((w2.alloc (Obj.cells #[.int .i64 t.1, .int .i64 t.2] 30)).alloc (Obj.cells #[] 30)).drew).heap.size := by simp; omega
              have z1 := (HS.out.below Cp).take hkn
              have z2 := (HS.out.below Cq).take hkn
              have z3 := (HS.out.below Cr).take hkn
              have hlk : (l.take P).length = P := by rw [List.length_take]; omega
              have hld : (l.drop P).length = 0 := by rw [List.length_drop]; omega
              have fl2 : flat (l.take P) ++ flat [t] = flat (l.take P ++ [t]) := (flat_append _ _).symm
              have fl3 : flat (l.take P ++ [t]) ++ flat (l.drop P) = flat (l.take P ++ t :: l.drop P) := by rw [← flat_append, List.append_assoc]; rfl
              have HF2 := Lib.hid fl2; have HF3 := Lib.hid fl3; have HLK := Lib.hid hlk; have HLD := Lib.hid hld
              clear fl2 fl3 hlk hld
              have hBO : w.heap.size ≠ O := by omega
              have hTO : w.heap.size + 1 ≠ O := by omega
              have hRO : w.heap.size + 1 + 1 ≠ O := by omega
              have k0 : (0 : Int) ≤ (P : Int) := by omega
              have k1 : (P : Int) ≤ (P : Int) := by omega
              have k2 : (P : Int) ≤ (cap : Int) := by omega
              go_region_held3 (fun w' => w'.cell? ⟨w.heap.size, 1, none⟩ = some (.slice a P cap) ∧ w'.cell? ⟨w.heap.size + 1, 0, none⟩ = some (.int .i64 t.1) ∧ w'.cell? ⟨w.heap.size + 1, 1, none⟩ = some (.int .i64 t.2))
                (first | exact ⟨B7.cell 1 rfl, T7.cell 0 rfl, T7.cell 1 rfl⟩ | exact ⟨Bp.cell 1 rfl, Tp.cell 0 rfl, Tp.cell 1 rfl⟩ | exact ⟨Bq.cell 1 rfl, Tq.cell 0 rfl, Tq.cell 1 rfl⟩ | exact ⟨Br.cell 1 rfl, Tr.cell 0 rfl, Tr.cell 1 rfl⟩ | exact ⟨Bs.cell 1 rfl, Ts.cell 0 rfl, Ts.cell 1 rfl⟩ | exact ⟨Bd.cell 1 rfl, Td.cell 0 rfl, Td.cell 1 rfl⟩ | exact ⟨B1'.cell 1 rfl, T1'.cell 0 rfl, T1'.cell 1 rfl⟩ | exact ⟨B2'.cell 1 rfl, T2'.cell 0 rfl, T2'.cell 1 rfl⟩ | exact ⟨B3'.cell 1 rfl, T3'.cell 0 rfl, T3'.cell 1 rfl⟩ | exact ⟨(B1'.alloc _).cell 1 rfl, (T1'.alloc _).cell 0 rfl, (T1'.alloc _).cell 1 rfl⟩ | exact ⟨(B3'.other hBO _ _).cell 1 rfl, (T3'.other hTO _ _).cell 0 rfl, (T3'.other hTO _ _).cell 1 rfl⟩ | go_keep)
                (first | (refine step_app (by rfl) _ _ (by rfl) (w.heap.size + 1 + 1 + 1) _ 0 [] a P _ w.heap.size (l.take P) (by rfl) (by rfl) own1a z1 HLK.out (by omega) s1 P (flat (l.take P)) (by omega) (by simp) ?_; intro b1 d1 u1 own1' hg1; have B1' := Bp.grown hg1 (nb_lit (by omega)); have T1' := Tp.grown hg1 (nb_lit (by omega)); have R1' := Rp.grown hg1 (nb_lit (by omega)); have O1' := Op.grown hg1 (nb_lit (by omega)); have C1' := Cp.grown hg1 (Cp.size) (fun P h => by simp only [Value.ownBlock, Option.some.injEq] at h; omega); have n1 : w.heap.size + 1 + 1 + 1 ≤ u1.heap.size := (by have := R1'.lt; omega)) | (refine step_app (by rfl) _ _ (by rfl) (w.heap.size + 1 + 1 + 1) _ 0 [] a P _ w.heap.size (l.take P) (by rfl) (by rfl) own2a z2 HLK.out (by omega) s2 P (flat (l.take P)) (by omega) (by simp) ?_; intro b1 d1 u1 own1' hg1; have B1' := Bq.grown hg1 (nb_lit (by omega)); have T1' := Tq.grown hg1 (nb_lit (by omega)); have R1' := Rq.grown hg1 (nb_lit (by omega)); have O1' := Oq.grown hg1 (nb_lit (by omega)); have C1' := Cq.grown hg1 (Cq.size) (fun P h => by simp only [Value.ownBlock, Option.some.injEq] at h; omega); have N1' := N2.grown hg1 (nb_lit (by omega)); have n1 : w.heap.size + 1 + 1 + 1 ≤ u1.heap.size := (by have := R1'.lt; omega)) | (refine step_app (by rfl) _ _ (by rfl) (w.heap.size + 1 + 1 + 1) _ 0 [] a P _ w.heap.size (l.take P) (by rfl) (by rfl) own3a z3 HLK.out (by omega) s3 P (flat (l.take P)) (by omega) (by simp) ?_; intro b1 d1 u1 own1' hg1; have B1' := Br.grown hg1 (nb_lit (by omega)); have T1' := Tr.grown hg1 (nb_lit (by omega)); have R1' := Rr.grown hg1 (nb_lit (by omega)); have O1' := Or.grown hg1 (nb_lit (by omega)); have C1' := Cr.grown hg1 (Cr.size) (fun P h => by simp only [Value.ownBlock, Option.some.injEq] at h; omega); have N1' := N3.grown hg1 (nb_lit (by omega)); have n1 : w.heap.size + 1 + 1 + 1 ≤ u1.heap.size := (by have := R1'.lt; omega)) | (refine step_app (by rfl) _ _ (by rfl) (w.heap.size + 1 + 1 + 1) _ P (flat (l.take P)) _ 1 1 _ [t] (by rfl) (by rfl) (own1'.alloc (Obj.cells #[.int .i64 t.1, .int .i64 t.2] 30)) (sl_one (Blk.new u1 #[.int .i64 t.1, .int .i64 t.2] 30)) rfl (by omega) (by simp; omega) (P + 1) (flat (l.take P ++ [t])) rfl HF2.out ?_; intro b2 d2 u2 own2' hg2; have B2' := ((B1'.alloc (Obj.cells #[.int .i64 t.1, .int .i64 t.2] 30))).grown hg2 (row_ne (own1'.alloc (Obj.cells #[.int .i64 t.1, .int .i64 t.2] 30)) (B1'.alloc (Obj.cells #[.int .i64 t.1, .int .i64 t.2] 30)) (by decide)); have T2' := ((T1'.alloc (Obj.cells #[.int .i64 t.1, .int .i64 t.2] 30))).grown hg2 (fun h => by have := (own1'.lt _ h).1; omega); have R2' := ((R1'.alloc (Obj.cells #[.int .i64 t.1, .int .i64 t.2] 30))).grown hg2 (row_ne (own1'.alloc (Obj.cells #[.int .i64 t.1, .int .i64 t.2] 30)) (R1'.alloc (Obj.cells #[.int .i64 t.1, .int .i64 t.2] 30)) (by decide)); have O2' := ((O1'.alloc (Obj.cells #[.int .i64 t.1, .int .i64 t.2] 30))).grown hg2 (row_ne (own1'.alloc (Obj.cells #[.int .i64 t.1, .int .i64 t.2] 30)) (O1'.alloc (Obj.cells #[.int .i64 t.1, .int .i64 t.2] 30)) (by decide)); have C2' := (bpush C1' (Obj.cells #[.int .i64 t.1, .int .i64 t.2] 30)).grown hg2 (bpush C1' (Obj.cells #[.int .i64 t.1, .int .i64 t.2] 30)).size (fun P h => by have := (own1'.lt _ h).1; omega); have n2 : w.heap.size + 1 + 1 + 1 ≤ u2.heap.size := (by have := R2'.lt; omega); have z4 := HS.out.below C2'; have o20 := O2'.cell 0 rfl) | (refine step_app (by rfl) _ _ (by rfl) (w.heap.size + 1 + 1 + 1) _ P (flat (l.take P)) _ 1 1 _ [t] (by rfl) (by rfl) own1' (sl_one N1') rfl (by omega) n1 (P + 1) (flat (l.take P ++ [t])) rfl HF2.out ?_; intro b2 d2 u2 own2' hg2; have B2' := ((B1')).grown hg2 (row_ne own1' (B1') (by decide)); have T2' := ((T1')).grown hg2 (fun h => by have := (own1'.lt _ h).1; omega); have R2' := ((R1')).grown hg2 (row_ne own1' (R1') (by decide)); have O2' := ((O1')).grown hg2 (row_ne own1' (O1') (by decide)); have C2' := C1'.grown hg2 C1'.size (fun P h => by have := (own1'.lt _ h).1; omega); have n2 : w.heap.size + 1 + 1 + 1 ≤ u2.heap.size := (by have := R2'.lt; omega); have z4 := HS.out.below C2'; have o20 := O2'.cell 0 rfl) | (refine step_app (by rfl) _ _ (by rfl) (w.heap.size + 1 + 1 + 1) _ (P + 1) (flat (l.take P ++ [t])) _ 0 _ w.heap.size (l.drop P) (by rfl) (by rfl) own2' (sl_zero _ _ _ _) HLD.out (by omega) n2 (P + 1) (flat (l.take P ++ t :: l.drop P)) (by omega) HF3.out ?_; intro b3 d3 u3 own3' hg3; have B3' := B2'.grown hg3 (row_ne own2' B2' (by decide)); have T3' := T2'.grown hg3 (fun h => by have := (own2'.lt _ h).1; omega); have R3' := R2'.grown hg3 (row_ne own2' R2' (by decide)); have O3' := O2'.grown hg3 (row_ne own2' O2' (by decide)); have C3' := C2'.grown hg3 C2'.size (fun P h => by have := (own2'.lt _ h).1; omega); have g30 := O3'.cell 0 rfl; have g31 := O3'.cell 1 rfl; have g32 := O3'.free 1))
              all_goals
                have hr := Lib.hid (row_ne own3' R3' (by decide))
                have ho := Lib.hid (row_ne own3' O3' (by decide))
                have O5 := O3'.set 1 (.slice b3 (P + 1) d3)
                have R5 := R3'.other hRO 1 (.slice b3 (P + 1) d3)
                have o50 := O5.cell 0 rfl
                have o51 := O5.cell 1 rfl
                have r50 := R5.cell 0 rfl
                have r51 := R5.cell 1 rfl
                have r52 := R5.free 0
                have r53 := R5.free 1
                go_wp2_with fail
                refine bodyPost_ret (v := .tuple #[.agg #[.int .i64 now, .slice b3 (P + 1) d3], .bool true]) ?_ rfl ?_
                · simp only [results, Try.results33]
                  go_simp
                · rw [H1.out, H2.out]
                  unfold Tried
                  rw [insT_length, hl, insT_eq, HPK.out]
                  refine ⟨b3, d3, rfl, ?_, ?_⟩
                  · repeat (first | with_reducible exact C3' | with_reducible refine Below.setCell ?_ (by simp <;> omega) _)
                  · refine row_mono ?_ (show w.heap.size ≤ w.heap.size + 1 + 1 + 1 by omega)
                    repeat (first | with_reducible exact own3' | with_reducible refine row_sets ?_ hr.out | with_reducible refine row_sets ?_ ho.out)

end Go.Proofs.Ytjlaikmilcgmhaa
