/- A ticket presented to a register: the program. -/
import Derived.Test.YtjlaikmilcgmhaaGn
import Derived.Test.YtjlaikmilcgmhaaGi
namespace Go.Proofs.Ytjlaikmilcgmhaa
open Go.RowKit Go.Lib
set_option linter.unusedVariables false
attribute [local go_sem ↓] Go.wp_at_zero Go.wp_at_succ

def tryN (now : Int) (l : TL) (t : Int × Int) : Int := if tryOk now l t = true then now else 0
def tryS (now : Int) (l : TL) (t : Int × Int) : TL := if tryOk now l t = true then (if accT now l t = true then insT t l else l) else []
def tryV (now : Int) (l : TL) (t : Int × Int) : Bool := tryOk now l t && accT now l t
theorem try_no {now : Int} {l : TL} {t : Int × Int} (h : tryOk now l t = false) : tryN now l t = 0 ∧ tryS now l t = [] ∧ tryV now l t = false := by
  unfold tryN tryS tryV; rw [h]; exact ⟨rfl, rfl, rfl⟩
theorem try_rej {now : Int} {l : TL} {t : Int × Int} (h : tryOk now l t = true) (g : accT now l t = false) : tryN now l t = now ∧ tryS now l t = l ∧ tryV now l t = false := by
  unfold tryN tryS tryV; rw [h, g]; exact ⟨rfl, rfl, rfl⟩
theorem try_acc {now : Int} {l : TL} {t : Int × Int} (h : tryOk now l t = true) (g : accT now l t = true) : tryN now l t = now ∧ tryS now l t = insT t l ∧ tryV now l t = true := by
  unfold tryN tryS tryV; rw [h, g]; exact ⟨rfl, rfl, rfl⟩
theorem row_mono {w : World} {base B' k n : Nat} {e : TypeId} {v : Value} {xs : List Value} (h : w.ownsRow base e k v n xs) (hB : B' ≤ base) : w.ownsRow B' e k v n xs := by
  obtain ⟨hl, h | ⟨g, cap, cur, h, hg, h'⟩⟩ := h
  · exact ⟨hl, .inl h⟩
  · exact ⟨hl, .inr ⟨g, cap, cur, h, by omega, h'⟩⟩
theorem row_ne {w : World} {base k n cap b : Nat} {e T : TypeId} {a : Option Addr} {xs : List Value} {cs : Array Value} (h : w.ownsRow base e k (.slice a n cap) n xs) (hb : Blk w b cs T) (hT : e ≠ T) : (Value.slice a n cap).ownBlock ≠ some b := by
  obtain ⟨_, ⟨h0, _⟩ | ⟨g, cap', cur, hv, _, hg, _⟩⟩ := h
  · rw [h0]; simp [Value.ownBlock]
  · rw [hv]
    simp only [Value.ownBlock, ne_eq, Option.some.injEq]
    rintro rfl
    unfold Blk at hb
    rw [hg] at hb
    simp only [Option.some.injEq, Obj.cells.injEq] at hb
    exact hT hb.2.1
theorem ow_other {k n B b j cap : Nat} {w : World} {a : Option Addr} {g : Nat → Nat → Value} {u : Value} (h : Ow k w B a n g) (hne : (Value.slice a n cap).ownBlock ≠ some b) : Ow k (w.setCell ⟨b, j, none⟩ u) B a n g := by
  refine ⟨h.1, ?_⟩
  rcases h.2 with h0 | ⟨b', cs, T, e, hB, hb, hc⟩
  · exact .inl h0
  · refine .inr ⟨b', cs, T, e, hB, hb.other (fun e' => hne ?_) _ _, hc⟩
    rw [e, e']; rfl
theorem Sl.nil {k n B : Nat} {w : World} {a : Option Addr} {g : Nat → Nat → Value} (h : Sl k w B a n g) : a = none → n = 0 := by
  rintro rfl
  rcases h.2 with h0 | ⟨b, off, e, _⟩
  · exact h0
  · cases e

set_option maxHeartbeats 4000000 in
theorem rtry_no (now : Int) (t : Int × Int) (a : Option Addr) (n cap : Nat) (l : List (Int × Int)) (w : World) (hl : l.length = n) (S : Sl 2 w w.heap.size a n (tkG l)) (hno : tryOk now l t = false) :
    Calls Try.prog 28 #[.agg #[.int .i64 now, .slice a n cap], .agg #[.int .i64 t.1, .int .i64 t.2]] w (Stepped w 0 [] false) := by
  have hb0 := bpush (bpush (bpush (Below.refl w.heap.size w) (Obj.cells #[.int .i64 now, .slice a n cap] 42)) (Obj.cells #[.int .i64 t.1, .int .i64 t.2] 30)) (Obj.cells #[.int .i64 0, .slice none 0 0] 42)
  have T0 := (Blk.new (w.alloc (Obj.cells #[.int .i64 now, .slice a n cap] 42)) #[.int .i64 t.1, .int .i64 t.2] 30).alloc (Obj.cells #[.int .i64 0, .slice none 0 0] 42)
  have R0 := Blk.new ((w.alloc (Obj.cells #[.int .i64 now, .slice a n cap] 42)).alloc (Obj.cells #[.int .i64 t.1, .int .i64 t.2] 30)) #[.int .i64 0, .slice none 0 0] 42
  simp only [World.size_alloc] at R0 T0
  have HV := Lib.hid (rvalid_impl now a n cap l _ hl ((S.below hb0).mono hb0.size))
  unfold tryOk at hno
  clear S
  cases b1 : regOk now l
  · go_enter Try.func28, Try.ntmps28
    go_wp2_with fail
    refine HV.out.mono ?_
    rintro e w1 ⟨rfl, hb1⟩
    rw [b1]
    have hB := bstep hb0 hb1
    have R1 := R0.below hb1
    have c0 := R1.cell 0 rfl
    have c1 := R1.cell 1 rfl
    have f0 := R1.free 0
    have f1 := R1.free 1
    clear HV b1 R0 T0 hno
    go_wp2_with fail
    refine bodyPost_ret (v := .tuple #[.agg #[.int .i64 0, .slice none 0 0], .bool false]) ?_ rfl ⟨none, 0, rfl, ?_, Ow.none _ _ _ _ _⟩
    · simp only [results, Try.results28]
      go_simp
    · repeat (first | with_reducible exact hB | with_reducible refine Below.setCell ?_ (by simp <;> omega) _)
  · rw [b1] at hno
    have b2 : tkOk t.1 t.2 = false := by simpa using hno
    go_enter Try.func28, Try.ntmps28
    go_wp2_with fail
    refine HV.out.mono ?_
    rintro e w1 ⟨rfl, hb1⟩
    rw [b1]
    have hB1 := bstep hb0 hb1
    have R1 := R0.below hb1
    have d0 := (T0.below hb1).cell 0 rfl
    have d1 := (T0.below hb1).cell 1 rfl
    clear HV b1 R0 T0 hno
    go_wp2_with fail
    refine (isT_impl t.1 t.2 _).mono ?_
    rintro e w2 ⟨rfl, hb2⟩
    rw [b2]
    have hB := bstep hB1 hb2
    have R2 := R1.below hb2
    have c0 := R2.cell 0 rfl
    have c1 := R2.cell 1 rfl
    have f0 := R2.free 0
    have f1 := R2.free 1
    clear d0 d1 R1 b2
    go_wp2_with fail
    refine bodyPost_ret (v := .tuple #[.agg #[.int .i64 0, .slice none 0 0], .bool false]) ?_ rfl ⟨none, 0, rfl, ?_, Ow.none _ _ _ _ _⟩
    · simp only [results, Try.results28]
      go_simp
    · repeat (first | with_reducible exact hB | with_reducible refine Below.setCell ?_ (by simp <;> omega) _)

set_option maxHeartbeats 4000000 in
theorem rtry_impl (now : Int) (t : Int × Int) (a : Option Addr) (n cap : Nat) (l : List (Int × Int)) (w : World) (hl : l.length = n) (S : Sl 2 w w.heap.size a n (tkG l)) :
    Calls Try.prog 28 #[.agg #[.int .i64 now, .slice a n cap], .agg #[.int .i64 t.1, .int .i64 t.2]] w (Stepped w (tryN now l t) (tryS now l t) (tryV now l t)) := by
  cases hok : tryOk now l t
  · obtain ⟨E1, E2, E3⟩ := try_no hok
    rw [E1, E2, E3]
    exact rtry_no now t a n cap l w hl S hok
  have hok' := hok
  unfold tryOk at hok'
  simp only [Bool.and_eq_true] at hok'
  obtain ⟨b1, b2⟩ := hok'
  obtain ⟨⟨h3, h4⟩, h5, h6, hsrt⟩ := regOk_iff.1 b1
  rw [hl] at h5
  have hb0 := bpush (bpush (bpush (Below.refl w.heap.size w) (Obj.cells #[.int .i64 now, .slice a n cap] 42)) (Obj.cells #[.int .i64 t.1, .int .i64 t.2] 30)) (Obj.cells #[.int .i64 0, .slice none 0 0] 42)
  have B0 := ((Blk.new w #[.int .i64 now, .slice a n cap] 42).alloc (Obj.cells #[.int .i64 t.1, .int .i64 t.2] 30)).alloc (Obj.cells #[.int .i64 0, .slice none 0 0] 42)
  have T0 := (Blk.new (w.alloc (Obj.cells #[.int .i64 now, .slice a n cap] 42)) #[.int .i64 t.1, .int .i64 t.2] 30).alloc (Obj.cells #[.int .i64 0, .slice none 0 0] 42)
  have R0 := Blk.new ((w.alloc (Obj.cells #[.int .i64 now, .slice a n cap] 42)).alloc (Obj.cells #[.int .i64 t.1, .int .i64 t.2] 30)) #[.int .i64 0, .slice none 0 0] 42
  simp only [World.size_alloc] at R0 T0
  have HV := Lib.hid (rvalid_impl now a n cap l _ hl ((S.below hb0).mono hb0.size))
  have hnil := S.nil
  have HS := Lib.hid S
  clear S h6
  have HN := Lib.hid hnil
  have HR := Lib.hid hsrt
  clear hnil hsrt
  have HOK := Lib.hid hok
  clear hok
  go_enter Try.func28, Try.ntmps28
  go_wp2_with fail
  refine HV.out.mono ?_
  rintro e w1 ⟨rfl, hb1⟩
  rw [b1]
  have hB1 := bstep hb0 hb1
  have B1 := B0.below hb1
  have T1 := T0.below hb1
  have R1 := R0.below hb1
  have d0 := T1.cell 0 rfl
  have d1 := T1.cell 1 rfl
  clear HV b1 R0 T0 B0 hb0 hb1
  go_wp2_with fail
  refine (isT_impl t.1 t.2 _).mono ?_
  rintro e w2 ⟨rfl, hb2⟩
  rw [b2]
  have hB2 := bstep hB1 hb2
  have B2 := B1.below hb2
  have T2 := T1.below hb2
  have R2 := R1.below hb2
  have HC := Lib.hid (clone_c a n cap l w2.drew hl (by omega) ((HS.out.below hB2).mono hB2.size) HN.out)
  have hBa := bdrew (bpush hB2 (Obj.cells #[.int .i64 0, .slice none 0 0] 42))
  have HCa := Lib.hid (clone_c a n cap l (w2.alloc (Obj.cells #[.int .i64 0, .slice none 0 0] 42)).drew hl (by omega) ((HS.out.below hBa).mono hBa.size) HN.out)
  clear d0 d1 R1 T1 B1 hB1 hb2 b2
  go_wp2_with fail
  go_region_held3 (fun w' => w'.cell? ⟨w.heap.size, 0, none⟩ = some (.int .i64 now) ∧ w'.cell? ⟨w.heap.size, 1, none⟩ = some (.slice a n cap))
    (first | exact ⟨B2.cell 0 rfl, B2.cell 1 rfl⟩ | exact ⟨B3.cell 0 rfl, B3.cell 1 rfl⟩ | exact ⟨(B3.alloc _).cell 0 rfl, (B3.alloc _).cell 1 rfl⟩ | exact ⟨(B2.alloc _).drew.cell 0 rfl, (B2.alloc _).drew.cell 1 rfl⟩ | exact ⟨((B3.other (by omega) _ _).other (by omega) _ _).cell 0 rfl, ((B3.other (by omega) _ _).other (by omega) _ _).cell 1 rfl⟩ | go_keep)
    (first | (go_at_call 36; with_reducible refine HC.out.mono ?_; rintro e w3 ⟨a3, cap3, rfl, hb3, own3⟩; have B3 := B2.drew.below hb3) | (go_at_call 36; with_reducible refine HCa.out.mono ?_; rintro e w3 ⟨a3, cap3, rfl, hb3, own3⟩; have B3 := (B2.alloc (Obj.cells #[.int .i64 0, .slice none 0 0] 42)).drew.below hb3; have O3 := (Blk.new w2 #[.int .i64 0, .slice none 0 0] 42).drew.below hb3; have o30 := O3.cell 0 rfl; have o31 := O3.cell 1 rfl; have o32 := O3.free 0; have o33 := O3.free 1; have hq := B2.lt))
  all_goals
    first
    | have O4 := Blk.new w3 #[.int .i64 now, .slice a3 n cap3] 42
      have B4 := B3.alloc (Obj.cells #[.int .i64 now, .slice a3 n cap3] 42)
      have T4 := (T2.drew.below hb3).alloc (Obj.cells #[.int .i64 now, .slice a3 n cap3] 42)
      have R4 := (R2.drew.below hb3).alloc (Obj.cells #[.int .i64 now, .slice a3 n cap3] 42)
      have hs2 : w2.heap.size ≤ w3.heap.size := by have := hb3.size; simpa using this
      have own4 := row_mono (own3.alloc (Obj.cells #[.int .i64 now, .slice a3 n cap3] 42)) (B' := w.heap.size + 1 + 1 + 1) (by have := R2.lt; simp; omega)
      have hC4 := bpush (bstep (bdrew hB2) hb3) (Obj.cells #[.int .i64 now, .slice a3 n cap3] 42)
      have hne : (Value.slice a3 n cap3).ownBlock ≠ some w3.heap.size := fun h => by have := (own3.lt _ h).2; omega
      have hO := B4.lt
      have hnl : ∀ k, (Value.slice a3 n cap3).ownBlock = some k → w.heap.size + 1 + 1 < k := fun k h => by have := (own3.lt _ h).1; simp at this; have := R2.lt; omega
      have hO1 : w.heap.size + 1 + 1 < w3.heap.size := by have := R2.lt; omega
      clear B3 own3 hb3 HC HCa hBa B2 T2 R2 hB2 hs2
      generalize (w3.alloc (Obj.cells #[.int .i64 now, .slice a3 n cap3] 42)) = W4 at O4 B4 T4 R4 own4 hC4 hO ⊢
      generalize w3.heap.size = O at O4 hne hO1 ⊢
    | have hq2 := R2.lt
      have O4 : Blk ((w3.setCell ⟨w2.heap.size, 0, none⟩ (.int .i64 now)).setCell ⟨w2.heap.size, 1, none⟩ (.slice a3 n cap3)) w2.heap.size #[.int .i64 now, .slice a3 n cap3] 42 := (O3.set 0 (.int .i64 now)).set 1 (.slice a3 n cap3)
      have B4 := (B3.other (b' := w2.heap.size) (by omega) 0 (.int .i64 now)).other (b' := w2.heap.size) (by omega) 1 (.slice a3 n cap3)
      have T4 := (((T2.alloc (Obj.cells #[.int .i64 0, .slice none 0 0] 42)).drew.below hb3).other (b' := w2.heap.size) (by omega) 0 (.int .i64 now)).other (b' := w2.heap.size) (by omega) 1 (.slice a3 n cap3)
      have R4 := (((R2.alloc (Obj.cells #[.int .i64 0, .slice none 0 0] 42)).drew.below hb3).other (b' := w2.heap.size) (by omega) 0 (.int .i64 now)).other (b' := w2.heap.size) (by omega) 1 (.slice a3 n cap3)
      have own4 := row_mono (row_set (j := 1) (u := .slice a3 n cap3) (row_set (j := 0) (u := .int .i64 now) own3 (b := w2.heap.size) (by simp)) (b := w2.heap.size) (by simp)) (B' := w.heap.size + 1 + 1 + 1) (by simp; omega)
      have hC4 := ((bstep hBa hb3).setCell (p := ⟨w2.heap.size, 0, none⟩) (by simp; omega) (.int .i64 now)).setCell (p := ⟨w2.heap.size, 1, none⟩) (by simp; omega) (.slice a3 n cap3)
      have hne : (Value.slice a3 n cap3).ownBlock ≠ some w2.heap.size := fun h => by have := (own3.lt _ h).1; simp at this; omega
      have hO := B4.lt
      have hnl : ∀ k, (Value.slice a3 n cap3).ownBlock = some k → w.heap.size + 1 + 1 < k := fun k h => by have := (own3.lt _ h).1; simp at this; have := R2.lt; omega
      have hO1 : w.heap.size + 1 + 1 < w2.heap.size := R2.lt
      clear O3 o30 o31 o32 o33 hq hq2 B3 own3 hb3 HC HCa hBa B2 T2 R2 hB2
      generalize ((w3.setCell ⟨w2.heap.size, 0, none⟩ (.int .i64 now)).setCell ⟨w2.heap.size, 1, none⟩ (.slice a3 n cap3)) = W4 at O4 B4 T4 R4 own4 hC4 hO ⊢
      generalize w2.heap.size = O at O4 hne hO1 ⊢
  all_goals
    have HNE := Lib.hid hne
    have HNL := Lib.hid hnl
    clear hne hnl
    have S4 := Lib.hid ((HS.out.below hC4).mono hC4.size)
    have d0 := B4.cell 0 rfl
    have d1 := B4.cell 1 rfl
    have e0 := T4.cell 0 rfl
    have e1 := T4.cell 1 rfl
    go_wp2_with fail
    refine (search_c a n cap l t _ hl (by omega) HR.out S4.out).mono ?_
    rintro e w5 ⟨rfl, hb5⟩
    have B5 := B4.below hb5
    have T5 := T4.below hb5
    have R5 := R4.below hb5
    have O5 := O4.below hb5
    have own5 := row_below own4 hb5
    have hC5 := bstep hC4 hb5
    clear d0 d1 e0 e1 B4 T4 R4 O4 own4 hC4 S4 hb5 hO
    have d0 := B5.cell 0 rfl
    have d1 := B5.cell 1 rfl
    have e0 := T5.cell 0 rfl
    have e1 := T5.cell 1 rfl
    have o0 := O5.cell 0 rfl
    have o1 := O5.cell 1 rfl
    have r0 := R5.cell 0 rfl
    have r1 := R5.cell 1 rfl
    have s0 := R5.free 0
    have s1 := R5.free 1
    have HO := Lib.hid (ow_of_row own5 (by omega) (fun i hi j hj => flat_at l i (by omega) j hj))
    have g10 : IntKind.i64.wrap (now - 10) = now - 10 := IntWalk.i64_in _ (by omega)
    cases hm : decide (t ∈ l)
    · by_cases h8 : n = 8
      · have h8' : ((n : Int) == 8) = true := by simp; omega
        have hacc : accT now l t = false := by unfold accT; rw [show decide (l.length < 8) = false from decide_eq_false (by omega)]; simp
        obtain ⟨G1, G2, G3⟩ := try_rej HOK.out hacc
        have H1 := Lib.hid G1; have H2 := Lib.hid G2; have H3 := Lib.hid G3
        clear G1 G2 G3 hacc hm h8
        go_wp2_with (go_at_call 35; refine (within_c _ _ _ _).mono ?_; rintro e w' ⟨rfl, rfl⟩)
        refine bodyPost_ret (v := .tuple #[.agg #[.int .i64 now, .slice a3 n cap3], .bool false]) ?_ rfl ?_
        · simp only [results, Try.results28]
          go_simp
        · rw [H1.out, H2.out, H3.out]
          refine ⟨a3, cap3, by rw [hl], ?_, ?_⟩
          · repeat (first | with_reducible exact hC5 | with_reducible refine Below.setCell ?_ (by simp <;> omega) _)
          · rw [hl]
            refine Ow.mono (Ow.chg HO.out (lo := w.heap.size) (hi := w.heap.size + 1 + 1 + 1) ?_ (Nat.le_refl _)) (by omega)
            repeat (first | with_reducible exact Chg.refl _ _ _ | with_reducible refine Chg.set ?_ (.inl (by simp <;> omega)) _ _)
      · have h8' : ((n : Int) == 8) = false := by simp; omega
        cases hb : inB t.2 (now - 10) now
        · have hacc : accT now l t = false := by unfold accT; rw [hb]; rfl
          obtain ⟨G1, G2, G3⟩ := try_rej HOK.out hacc
          have H1 := Lib.hid G1; have H2 := Lib.hid G2; have H3 := Lib.hid G3
          clear G1 G2 G3 hacc hm h8
          go_wp2_with (go_at_call 35; refine (within_c _ _ _ _).mono ?_; rintro e w' ⟨rfl, rfl⟩)
          refine bodyPost_ret (v := .tuple #[.agg #[.int .i64 now, .slice a3 n cap3], .bool false]) ?_ rfl ?_
          · simp only [results, Try.results28]
            go_simp
          · rw [H1.out, H2.out, H3.out]
            refine ⟨a3, cap3, by rw [hl], ?_, ?_⟩
            · repeat (first | with_reducible exact hC5 | with_reducible refine Below.setCell ?_ (by simp <;> omega) _)
            · rw [hl]
              refine Ow.mono (Ow.chg HO.out (lo := w.heap.size) (hi := w.heap.size + 1 + 1 + 1) ?_ (Nat.le_refl _)) (by omega)
              repeat (first | with_reducible exact Chg.refl _ _ _ | with_reducible refine Chg.set ?_ (.inl (by simp <;> omega)) _ _)
        · have hacc : accT now l t = true := by unfold accT; rw [hb, hm, decide_eq_true (show l.length < 8 by omega)]; rfl
          obtain ⟨G1, G2, G3⟩ := try_acc HOK.out hacc
          have H1 := Lib.hid G1; have H2 := Lib.hid G2; have H3 := Lib.hid G3
          clear G1 G2 G3 hacc hm h8
          have own6 := own5.alloc (Obj.cells #[.int .i64 t.1, .int .i64 t.2] 30)
          have O6 := O5.alloc (Obj.cells #[.int .i64 t.1, .int .i64 t.2] 30)
          have R6 := R5.alloc (Obj.cells #[.int .i64 t.1, .int .i64 t.2] 30)
          have N6 := Blk.new w5 #[.int .i64 t.1, .int .i64 t.2] 30
          have hC6 := bpush hC5 (Obj.cells #[.int .i64 t.1, .int .i64 t.2] 30)
          have hvb : (Value.slice a3 n cap3).ownBlock ≠ some w5.heap.size := fun h => by have := (own5.lt _ h).2; omega
          have q5 := R5.lt
          have q6 := O5.lt
          have HI := Lib.hid (insert_c a3 n cap3 (posT t l) l t (w.heap.size + 1 + 1 + 1) w5.heap.size _ hl h5 (by rw [← hl]; exact posT_le _ _) own6 (by simp; omega) N6 hvb)
          have HV := Lib.hid hvb
          clear hvb N6
          go_wp2_with (go_at_call 35; refine (within_c _ _ _ _).mono ?_; rintro e w' ⟨rfl, rfl⟩)
          refine HI.out.mono ?_
          rintro e w7 ⟨a7, cap7, rfl, hg7, own7⟩
          have O7 := O6.grown hg7 HNE.out
          have R7 := R6.grown hg7 (fun h => by have := HNL.out _ h; omega)
          have hC7 := bchg hC6 (chg_grown own6 hg7) (by omega)
          have HO7 := Lib.hid (ow_of_row own7 (by omega) (fun i hi j hj => flat_at _ i (by rw [← insT_eq, insT_length]; omega) j hj))
          have z1 := Lib.hid (row_ne own7 O7 (by decide))
          have z2 := Lib.hid (row_ne own7 R7 (by decide))
          have u0 := O7.cell 0 rfl
          have u1 := O7.cell 1 rfl
          have v1 := O7.free 1
          have x0 := R7.cell 0 rfl
          have x1 := R7.cell 1 rfl
          have y0 := R7.free 0
          have y1 := R7.free 1
          clear d0 d1 e0 e1 o0 o1 r0 r1 s0 s1 own5 O5 R5 B5 T5 hC5 HO own6 O6 R6 hC6 HI hg7 own7 O7 R7
          go_wp2_with fail
          refine bodyPost_ret (v := .tuple #[.agg #[.int .i64 now, .slice a7 (n + 1) cap7], .bool true]) ?_ rfl ?_
          · simp only [results, Try.results28]
            go_simp
          · rw [H1.out, H2.out, H3.out]
            refine ⟨a7, cap7, by rw [insT_length, hl], ?_, ?_⟩
            · repeat (first | with_reducible exact hC7 | with_reducible refine Below.setCell ?_ (by simp <;> omega) _)
            · rw [insT_length, hl, insT_eq]
              refine Ow.mono ?_ (show w.heap.size ≤ w.heap.size + 1 + 1 + 1 by omega)
              repeat (first | with_reducible exact HO7.out | with_reducible refine ow_other ?_ z1.out | with_reducible refine ow_other ?_ z2.out)
    · have hacc : accT now l t = false := by unfold accT; rw [hm]; simp
      obtain ⟨G1, G2, G3⟩ := try_rej HOK.out hacc
      have H1 := Lib.hid G1; have H2 := Lib.hid G2; have H3 := Lib.hid G3
      clear G1 G2 G3 hacc hm
      go_wp2_with (go_at_call 35; refine (within_c _ _ _ _).mono ?_; rintro e w' ⟨rfl, rfl⟩)
      refine bodyPost_ret (v := .tuple #[.agg #[.int .i64 now, .slice a3 n cap3], .bool false]) ?_ rfl ?_
      · simp only [results, Try.results28]
        go_simp
      · rw [H1.out, H2.out, H3.out]
        refine ⟨a3, cap3, by rw [hl], ?_, ?_⟩
        · repeat (first | with_reducible exact hC5 | with_reducible refine Below.setCell ?_ (by simp <;> omega) _)
        · rw [hl]
          refine Ow.mono (Ow.chg HO.out (lo := w.heap.size) (hi := w.heap.size + 1 + 1 + 1) ?_ (Nat.le_refl _)) (by omega)
          repeat (first | with_reducible exact Chg.refl _ _ _ | with_reducible refine Chg.set ?_ (.inl (by simp <;> omega)) _ _)
end Go.Proofs.Ytjlaikmilcgmhaa
