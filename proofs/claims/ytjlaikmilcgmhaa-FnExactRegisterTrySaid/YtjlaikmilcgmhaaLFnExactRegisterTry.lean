/- The program's RegisterTry returns what the reference's returns, for all arguments, leaves its argument as it was, and hands back memory that nothing else shares.
   No condition: it holds for every input. -/
import Derived.Test.YtjlaikmilcgmhaaRows
import Derived.WalkKit
import Derived.ProofKit
import Derived.OpenShut
import Derived.ShutString
import Derived.ChangeOld
import Derived.Below
import Derived.Lib.SmallJoins
import Derived.Test.YtjlaikmilcgmhaaGf
import Derived.Test.YtjlaikmilcgmhaaGg
import Derived.Test.YtjlaikmilcgmhaaGt
import Derived.Test.YtjlaikmilcgmhaaGk
namespace Go.Proofs.Ytjlaikmilcgmhaa.fnExactRegisterTry
open Go.ChangeShapes Go.WideShapes Go.ChangeAt Go.RowKit Go.Joins
open Go.ChangeMaps (open_string shut_string)
set_option linter.unusedVariables false

theorem tryS_len (now : Int) (l : TL) (t : Int × Int) : (tryS now l t).length ≤ l.length ∨ (tryS now l t).length ≤ 9 := by
  unfold tryS
  cases h : tryOk now l t
  · left; simp
  · simp only [if_true]
    split
    · right
      unfold tryOk at h
      simp only [Bool.and_eq_true] at h
      have := (regOk_t h.1).2.1
      rw [insT_length]; omega
    · left; omega
theorem rtryi (now : Int) (t : Int × Int) (a : Option Addr) (n cap : Nat) (l : List (Int × Int)) (w : World) (hl : l.length = n) (S : n ≤ cap ∧ Sl 2 w w.heap.size a n (tkG l)) :
    Calls Try.prog 28 #[.agg #[.int .i64 now, .slice a n cap], .agg #[.int .i64 t.1, .int .i64 t.2]] w (Stepped w (tryN now l t) (tryS now l t) (tryV now l t)) := rtry_impl now t a n cap l w hl S.2
theorem rtrys (now : Int) (t : Int × Int) (a : Option Addr) (n cap : Nat) (l : List (Int × Int)) (w : World) (hl : l.length = n) (S : n ≤ cap ∧ Sl 2 w w.heap.size a n (tkG l)) :
    Calls Try.prog 27 #[.agg #[.int .i64 now, .slice a n cap], .agg #[.int .i64 t.1, .int .i64 t.2]] w (Stepped w (tryN now l t) (tryS now l t) (tryV now l t)) := rtry_spec now t a n cap l w hl S.1 S.2
set_option maxRecDepth 100000 in
set_option maxHeartbeats 4000000 in
theorem walk (now : Int) (a : Option Addr) (n cap : Nat) (l : List (Int × Int)) (ti ts : Int) (w : World) (hl : l.length = n) (S : Sl 2 w w.heap.size a n (tkG l)) :
    Calls Try.prog 7 #[.agg #[.int .i64 now, .slice a n cap], .agg #[.int .i64 ti, .int .i64 ts]] w fun e w' => e = .returned (.bool true) ∧ Below w.heap.size w w' := by
  have hn := S.len
  have hc0 := bpush (bpush (Below.refl w.heap.size w) (Obj.cells #[.int .i64 now, .slice a n cap] 37)) (Obj.cells #[.int .i64 ti, .int .i64 ts] 24)
  have BPn := (Blk.new w #[.int .i64 now, .slice a n cap] 37).alloc (Obj.cells #[.int .i64 ti, .int .i64 ts] 24)
  have BQn := Blk.new (w.alloc (Obj.cells #[.int .i64 now, .slice a n cap] 37)) #[.int .i64 ti, .int .i64 ts] 24
  simp only [World.size_alloc] at BQn
  by_cases h : (1048576 : Int) < (n : Int)
  · have E : szF 1048576 n = -1 := by unfold szF; rw [if_pos h]
    clear S
    go_enter Try.func7, Try.ntmps7
    go_wp2_with fail
    refine (szReg_c _ _ _ _ _ _ (by omega) (by omega) hn).mono ?_
    rintro e w1 ⟨rfl, hb1⟩
    rw [E]
    go_wp2_with fail
    go_ret
    exact ⟨rfl, bstep hc0 hb1⟩
  have hn' : n ≤ 1048576 := by omega
  have E : szF 1048576 n = 1048576 - n := by unfold szF; rw [if_neg h]
  have HS := Lib.hid S; clear S
  have hlen : (tryS now l (ti, ts)).length ≤ 1048576 := by have := tryS_len now l (ti, ts); omega
  have HI := Lib.hid (fun a cap w S => rtryi now (ti, ts) a n cap l w hl S)
  have HP := Lib.hid (fun a cap w S => rtrys now (ti, ts) a n cap l w hl S)
  generalize tryS now l (ti, ts) = L at hlen HI HP
  generalize tryN now l (ti, ts) = N at HI HP
  generalize tryV now l (ti, ts) = V at HI HP
  go_enter Try.func7, Try.ntmps7
  go_wp2_with fail
  refine (szReg_c _ _ _ _ _ _ (by omega) (by omega) hn).mono ?_
  rintro e w1 ⟨rfl, hb1⟩
  rw [E]
  clear E h
  have z1 : w.heap.size + 1 + 1 ≤ w1.heap.size := by have := hb1.size; simpa using this
  have BP1 := BPn.below hb1
  have BQ1 := BQn.below hb1
  have C1 := bstep hc0 hb1
  clear BPn BQn hc0 hb1
  go_upto_region 5 with fail
  go_cut [6, 7] (fun s6 s7 wx => Laid 42 w1 N L.length (tkG L) V s6 s7 wx)
  case first =>
    have ZC := C1
    have ZB := BP1
    have ZQ := BQ1
    have zq := ZB.lt
    have zr := ZQ.lt
    go_region_held3 (fun w' => w'.cell? ⟨w.heap.size, 0, none⟩ = some (.int .i64 now) ∧ w'.cell? ⟨w.heap.size, 1, none⟩ = some (.slice a n cap) ∧ w'.cell? ⟨w.heap.size + 1, 0, none⟩ = some (.int .i64 ti) ∧ w'.cell? ⟨w.heap.size + 1, 1, none⟩ = some (.int .i64 ts))
      (exact ⟨(show Blk _ (w.heap.size) #[.int .i64 now, .slice a n cap] 37 from by repeat (first | with_reducible assumption | with_reducible refine Blk.drew ?_ | with_reducible refine Blk.alloc ?_ _ | with_reducible refine Blk.other ?_ (by omega) _ _)).cell 0 rfl, (show Blk _ (w.heap.size) #[.int .i64 now, .slice a n cap] 37 from by repeat (first | with_reducible assumption | with_reducible refine Blk.drew ?_ | with_reducible refine Blk.alloc ?_ _ | with_reducible refine Blk.other ?_ (by omega) _ _)).cell 1 rfl, (show Blk _ (w.heap.size + 1) #[.int .i64 ti, .int .i64 ts] 24 from by repeat (first | with_reducible assumption | with_reducible refine Blk.drew ?_ | with_reducible refine Blk.alloc ?_ _ | with_reducible refine Blk.other ?_ (by omega) _ _)).cell 0 rfl, (show Blk _ (w.heap.size + 1) #[.int .i64 ti, .int .i64 ts] 24 from by repeat (first | with_reducible assumption | with_reducible refine Blk.drew ?_ | with_reducible refine Blk.alloc ?_ _ | with_reducible refine Blk.other ?_ (by omega) _ _)).cell 1 rfl⟩)
      (first | (go_at_call 18; (first | with_reducible refine (toReg_c _ _ _ _ l _ hl hn' ((HS.out.below (bdrew ZC)).mono (Below.size (bdrew ZC)))).mono ?_ | with_reducible refine (toReg_c _ _ _ _ l _ hl hn' ((HS.out.below (bdrew (bpush ZC _))).mono (Below.size (bdrew (bpush ZC _))))).mono ?_ | with_reducible refine (toReg_c _ _ _ _ l _ hl hn' ((HS.out.below Ct).mono (Below.size Ct))).mono ?_ | with_reducible refine (toReg_c _ _ _ _ l _ hl hn' ((HS.out.below (bpush Ct _)).mono (Below.size (bpush Ct _)))).mono ?_); rintro e wr ⟨ar, rfl, hbr, hor⟩; have BPr := ((show Blk _ (w.heap.size) #[.int .i64 now, .slice a n cap] 37 from by repeat (first | with_reducible assumption | with_reducible refine Blk.drew ?_ | with_reducible refine Blk.alloc ?_ _ | with_reducible refine Blk.other ?_ (by omega) _ _))).below hbr; have BQr := ((show Blk _ (w.heap.size + 1) #[.int .i64 ti, .int .i64 ts] 24 from by repeat (first | with_reducible assumption | with_reducible refine Blk.drew ?_ | with_reducible refine Blk.alloc ?_ _ | with_reducible refine Blk.other ?_ (by omega) _ _))).below hbr; have Cr := bstep (show Below w.heap.size w _ from (by repeat (first | with_reducible assumption | with_reducible exact Below.refl _ _ | with_reducible refine bdrew ?_ | with_reducible refine bpush ?_ _))) hbr; have Dr := bstep (show Below w1.heap.size w1 _ from (by repeat (first | with_reducible assumption | with_reducible exact Below.refl _ _ | with_reducible refine bdrew ?_ | with_reducible refine bpush ?_ _))) hbr; have szr := hbr.size; (try simp at szr)) | (go_at_call 11; with_reducible refine (toTicket_c _ _ _).mono ?_; rintro e wt ⟨rfl, hbt⟩; have BPt := ((show Blk _ (w.heap.size) #[.int .i64 now, .slice a n cap] 37 from by repeat (first | with_reducible assumption | with_reducible refine Blk.drew ?_ | with_reducible refine Blk.alloc ?_ _ | with_reducible refine Blk.other ?_ (by omega) _ _))).below hbt; have BQt := ((show Blk _ (w.heap.size + 1) #[.int .i64 ti, .int .i64 ts] 24 from by repeat (first | with_reducible assumption | with_reducible refine Blk.drew ?_ | with_reducible refine Blk.alloc ?_ _ | with_reducible refine Blk.other ?_ (by omega) _ _))).below hbt; have Ct := bstep (show Below w.heap.size w _ from (by repeat (first | with_reducible assumption | with_reducible exact Below.refl _ _ | with_reducible refine bdrew ?_ | with_reducible refine bpush ?_ _))) hbt; have Dt := bstep (show Below w1.heap.size w1 _ from (by repeat (first | with_reducible assumption | with_reducible exact Below.refl _ _ | with_reducible refine bdrew ?_ | with_reducible refine bpush ?_ _))) hbt; have szt := hbt.size; (try simp at szt)) | (go_at_call 27; (first | with_reducible refine (HP.out _ _ _ ⟨Nat.le_refl n, (hor.below hbt).sl⟩).mono ?_ | with_reducible refine (HP.out _ _ _ ⟨Nat.le_refl n, ((hor.alloc _).below hbt).sl⟩).mono ?_ | with_reducible refine (HP.out _ _ _ ⟨Nat.le_refl n, hor.sl⟩).mono ?_ | with_reducible refine (HP.out _ _ _ ⟨Nat.le_refl n, ((hor.below hbt).alloc _).sl⟩).mono ?_ | with_reducible refine (HP.out _ _ _ ⟨Nat.le_refl n, (((hor.alloc _).below hbt).alloc _).sl⟩).mono ?_ | with_reducible refine (HP.out _ _ _ ⟨Nat.le_refl n, (hor.alloc _).sl⟩).mono ?_); rintro e ws ⟨a9, c9, rfl, hbs, hos⟩; have BPs := ((show Blk _ (w.heap.size) #[.int .i64 now, .slice a n cap] 37 from by repeat (first | with_reducible assumption | with_reducible refine Blk.drew ?_ | with_reducible refine Blk.alloc ?_ _ | with_reducible refine Blk.other ?_ (by omega) _ _))).below hbs; have BQs := ((show Blk _ (w.heap.size + 1) #[.int .i64 ti, .int .i64 ts] 24 from by repeat (first | with_reducible assumption | with_reducible refine Blk.drew ?_ | with_reducible refine Blk.alloc ?_ _ | with_reducible refine Blk.other ?_ (by omega) _ _))).below hbs; have Cs := bstep (show Below w.heap.size w _ from (by repeat (first | with_reducible assumption | with_reducible exact Below.refl _ _ | with_reducible refine bdrew ?_ | with_reducible refine bpush ?_ _))) hbs; have Ds := bstep (show Below w1.heap.size w1 _ from (by repeat (first | with_reducible assumption | with_reducible exact Below.refl _ _ | with_reducible refine bdrew ?_ | with_reducible refine bpush ?_ _))) hbs; have szs := hbs.size; (try simp at szs); first | (have OO := ((((Blk.new w1 #[.int .i64 0, .slice none 0 0] 42).drew.below hbr).below hbt).below hbs); have oo0 := OO.cell 0 rfl; have oo1 := OO.cell 1 rfl; have oo2 := OO.free 0; have oo3 := OO.free 1) | (have OO := ((((Blk.new w1 #[.int .i64 0, .slice none 0 0] 42).drew.below hbt).below hbr).below hbs); have oo0 := OO.cell 0 rfl; have oo1 := OO.cell 1 rfl; have oo2 := OO.free 0; have oo3 := OO.free 1) | (have OO := (((Blk.new wr #[.int .i64 0, .slice none 0 0] 42).below hbt).below hbs); have oo0 := OO.cell 0 rfl; have oo1 := OO.cell 1 rfl; have oo2 := OO.free 0; have oo3 := OO.free 1) | (have OO := (((Blk.new wt #[.int .i64 0, .slice none 0 0] 42).below hbr).below hbs); have oo0 := OO.cell 0 rfl; have oo1 := OO.cell 1 rfl; have oo2 := OO.free 0; have oo3 := OO.free 1) | (have OO := ((Blk.new wt #[.int .i64 0, .slice none 0 0] 42).below hbs); have oo0 := OO.cell 0 rfl; have oo1 := OO.cell 1 rfl; have oo2 := OO.free 0; have oo3 := OO.free 1) | (have OO := ((Blk.new wr #[.int .i64 0, .slice none 0 0] 42).below hbs); have oo0 := OO.cell 0 rfl; have oo1 := OO.cell 1 rfl; have oo2 := OO.free 0; have oo3 := OO.free 1) | skip) | fail)
    all_goals
      go_wp2_with fail
      go_meet
      case rel =>
        first
        | exact laid_old OO Ds hos (by first | omega | (simp <;> omega)) (by first | omega | (simp <;> omega))
        | exact laid_new Ds hos (by first | omega | (simp <;> omega))
        | fail
  case rest =>
    obtain ⟨w2, hw2⟩ : ∃ x, x = wc := ⟨_, rfl⟩
    subst hw2
    obtain ⟨O2, b2, t2, a2, c2, rfl, rfl, hb2, kk2a, kk2b, kk2c, kk2d, hO2, ho2, ltW⟩ := hcut
    have kk2e := hO2.lt
    have z2 : w1.heap.size ≤ w2.heap.size := by have := hb2.size; simpa using this
    have BP2 := BP1.below hb2
    have BQ2 := BQ1.below hb2
    have C2 := bstep C1 hb2
    clear BP1 BQ1 C1 hb2
    have S3 := Lib.hid ((HS.out.below C2).mono C2.size)
    have xP0 := BP2.cell 0 rfl
    have xP1 := BP2.cell 1 rfl
    have qP := BP2.lt
    go_wp2_with fail
    refine (toReg_c _ _ _ _ l _ hl hn' S3.out).mono ?_
    rintro e w3 ⟨a3, rfl, hb3, ho3⟩
    have z3 : w2.heap.size ≤ w3.heap.size := by have := hb3.size; simpa using this
    have BP3 := BP2.below hb3
    have BQ3 := BQ2.below hb3
    have BW3 := hO2.below hb3
    have OW3 := ho2.below hb3
    have C3 := bstep C2 hb3
    have ltX := ho3.lt
    clear xP0 xP1 qP S3 BP2 BQ2 hO2 ho2 C2 hb3
    have A4 := bpush (Below.refl w3.heap.size w3) (Obj.cells #[.int .i64 now, .slice a3 n n] 42)
    have BXn := Blk.new w3 #[.int .i64 now, .slice a3 n n] 42
    have z4 : w3.heap.size ≤ w3.heap.size + 1 := by simp
    have BP4 := BP3.below A4
    have BQ4 := BQ3.below A4
    have BW4 := BW3.below A4
    have OW4 := OW3.below A4
    have OX4 := ho3.below A4
    have C4 := bstep C3 A4
    go_upto_region 7 with fail
    have zz4a : w3.heap.size + 1 ≤ (w3.alloc (Obj.cells #[.int .i64 now, .slice a3 n n] 42)).heap.size := by simp
    have zz4b : (w3.alloc (Obj.cells #[.int .i64 now, .slice a3 n n] 42)).heap.size ≤ w3.heap.size + 1 := by simp
    generalize (w3.alloc (Obj.cells #[.int .i64 now, .slice a3 n n] 42)) = wy4 at *
    go_cut [9, 10] (fun s6 s7 wx => Laid 42 wy4 N L.length (tkG L) V s6 s7 wx)
    case first =>
      have ZC := C4
      have ZB := BXn
      have ZQ := BQ4
      have zq := ZB.lt
      have zr := ZQ.lt
      have ZX := OX4
      go_region_held3 (fun w' => w'.cell? ⟨w3.heap.size, 0, none⟩ = some (.int .i64 now) ∧ w'.cell? ⟨w3.heap.size, 1, none⟩ = some (.slice a3 n n) ∧ w'.cell? ⟨w.heap.size + 1, 0, none⟩ = some (.int .i64 ti) ∧ w'.cell? ⟨w.heap.size + 1, 1, none⟩ = some (.int .i64 ts))
        (exact ⟨(show Blk _ (w3.heap.size) #[.int .i64 now, .slice a3 n n] 42 from by repeat (first | with_reducible assumption | with_reducible refine Blk.drew ?_ | with_reducible refine Blk.alloc ?_ _ | with_reducible refine Blk.other ?_ (by omega) _ _)).cell 0 rfl, (show Blk _ (w3.heap.size) #[.int .i64 now, .slice a3 n n] 42 from by repeat (first | with_reducible assumption | with_reducible refine Blk.drew ?_ | with_reducible refine Blk.alloc ?_ _ | with_reducible refine Blk.other ?_ (by omega) _ _)).cell 1 rfl, (show Blk _ (w.heap.size + 1) #[.int .i64 ti, .int .i64 ts] 24 from by repeat (first | with_reducible assumption | with_reducible refine Blk.drew ?_ | with_reducible refine Blk.alloc ?_ _ | with_reducible refine Blk.other ?_ (by omega) _ _)).cell 0 rfl, (show Blk _ (w.heap.size + 1) #[.int .i64 ti, .int .i64 ts] 24 from by repeat (first | with_reducible assumption | with_reducible refine Blk.drew ?_ | with_reducible refine Blk.alloc ?_ _ | with_reducible refine Blk.other ?_ (by omega) _ _)).cell 1 rfl⟩)
        (first | (go_at_call 11; with_reducible refine (toTicket_c _ _ _).mono ?_; rintro e wt ⟨rfl, hbt⟩; have BPt := ((show Blk _ (w3.heap.size) #[.int .i64 now, .slice a3 n n] 42 from by repeat (first | with_reducible assumption | with_reducible refine Blk.drew ?_ | with_reducible refine Blk.alloc ?_ _ | with_reducible refine Blk.other ?_ (by omega) _ _))).below hbt; have BQt := ((show Blk _ (w.heap.size + 1) #[.int .i64 ti, .int .i64 ts] 24 from by repeat (first | with_reducible assumption | with_reducible refine Blk.drew ?_ | with_reducible refine Blk.alloc ?_ _ | with_reducible refine Blk.other ?_ (by omega) _ _))).below hbt; have Ct := bstep (show Below w.heap.size w _ from (by repeat (first | with_reducible assumption | with_reducible exact Below.refl _ _ | with_reducible refine bdrew ?_ | with_reducible refine bpush ?_ _))) hbt; have Dt := bstep (show Below wy4.heap.size wy4 _ from (by repeat (first | with_reducible assumption | with_reducible exact Below.refl _ _ | with_reducible refine bdrew ?_ | with_reducible refine bpush ?_ _))) hbt; have szt := hbt.size; (try simp at szt)) | (go_at_call 28; (first | with_reducible refine (HI.out _ _ _ ⟨Nat.le_refl n, (ZX.drew.below hbt).sl⟩).mono ?_ | with_reducible refine (HI.out _ _ _ ⟨Nat.le_refl n, ((ZX.alloc _).drew.below hbt).sl⟩).mono ?_ | with_reducible refine (HI.out _ _ _ ⟨Nat.le_refl n, ((ZX.drew.below hbt).alloc _).sl⟩).mono ?_ | with_reducible refine (HI.out _ _ _ ⟨Nat.le_refl n, (((ZX.alloc _).drew.below hbt).alloc _).sl⟩).mono ?_); rintro e ws ⟨a9, c9, rfl, hbs, hos⟩; have BPs := ((show Blk _ (w3.heap.size) #[.int .i64 now, .slice a3 n n] 42 from by repeat (first | with_reducible assumption | with_reducible refine Blk.drew ?_ | with_reducible refine Blk.alloc ?_ _ | with_reducible refine Blk.other ?_ (by omega) _ _))).below hbs; have BQs := ((show Blk _ (w.heap.size + 1) #[.int .i64 ti, .int .i64 ts] 24 from by repeat (first | with_reducible assumption | with_reducible refine Blk.drew ?_ | with_reducible refine Blk.alloc ?_ _ | with_reducible refine Blk.other ?_ (by omega) _ _))).below hbs; have Cs := bstep (show Below w.heap.size w _ from (by repeat (first | with_reducible assumption | with_reducible exact Below.refl _ _ | with_reducible refine bdrew ?_ | with_reducible refine bpush ?_ _))) hbs; have Ds := bstep (show Below wy4.heap.size wy4 _ from (by repeat (first | with_reducible assumption | with_reducible exact Below.refl _ _ | with_reducible refine bdrew ?_ | with_reducible refine bpush ?_ _))) hbs; have szs := hbs.size; (try simp at szs); first | (have OO := (((Blk.new wy4 #[.int .i64 0, .slice none 0 0] 42).drew.below hbt).below hbs); have oo0 := OO.cell 0 rfl; have oo1 := OO.cell 1 rfl; have oo2 := OO.free 0; have oo3 := OO.free 1) | (have OO := ((Blk.new wt #[.int .i64 0, .slice none 0 0] 42).below hbs); have oo0 := OO.cell 0 rfl; have oo1 := OO.cell 1 rfl; have oo2 := OO.free 0; have oo3 := OO.free 1) | skip) | fail)
      all_goals
        go_wp2_with fail
        go_meet
        case rel =>
          first
          | exact laid_old OO Ds hos (by first | omega | (simp <;> omega)) (by first | omega | (simp <;> omega))
          | exact laid_new Ds hos (by first | omega | (simp <;> omega))
          | fail
    case rest =>
      obtain ⟨w4, hw4⟩ : ∃ x, x = wc := ⟨_, rfl⟩
      subst hw4
      obtain ⟨O4, b4, t4, a4, c4, rfl, rfl, hb4, kk4a, kk4b, kk4c, kk4d, hO4, ho4, ltG⟩ := hcut
      have kk4e := hO4.lt
      have z5 : wy4.heap.size ≤ w4.heap.size := by have := hb4.size; simpa using this
      have BP5 := BP4.below hb4
      have BQ5 := BQ4.below hb4
      have BW5 := BW4.below hb4
      have BX5 := BXn.below hb4
      have OW5 := OW4.below hb4
      have OX5 := OX4.below hb4
      have C5 := bstep C4 hb4
      clear BP3 BQ3 BW3 OW3 ho3 C3 A4 BP4 BQ4 BW4 BXn OW4 OX4 C4 hb4
      have S5 := Lib.hid ho4.sl
      have U5 := Lib.hid OW5.sl
      have xG0 := hO4.cell 0 rfl
      have xG1 := hO4.cell 1 rfl
      have qG := hO4.lt
      have xW0 := BW5.cell 0 rfl
      have xW1 := BW5.cell 1 rfl
      have qW := BW5.lt
      go_wp2_with fail
      refine (eqReg_c _ _ _ _ _ _ L _ S5.out U5.out).mono ?_
      rintro e w5 ⟨rfl, hb5⟩
      have z6 : w4.heap.size ≤ w5.heap.size := by have := hb5.size; simpa using this
      have BP6 := BP5.below hb5
      have BQ6 := BQ5.below hb5
      have BW6 := BW5.below hb5
      have BX6 := BX5.below hb5
      have BG6 := hO4.below hb5
      have OW6 := OW5.below hb5
      have OX6 := OX5.below hb5
      have OG6 := ho4.below hb5
      have C6 := bstep C5 hb5
      clear xG0 xG1 qG xW0 xW1 qW S5 U5 BP5 BQ5 BW5 BX5 hO4 OW5 OX5 ho4 C5 hb5
      have S6 := Lib.hid (show Sl 2 w5.drew w5.drew.heap.size a n (tkG l) from (HS.out.below (bdrew C6)).mono C6.size)
      have xP0 := BP6.cell 0 rfl
      have xP1 := BP6.cell 1 rfl
      have qP := BP6.lt
      have xX0 := BX6.cell 0 rfl
      have xX1 := BX6.cell 1 rfl
      have qX := BX6.lt
      go_wp2_with fail
      go_region_law (first | (go_simp; go_at_call 18; with_reducible refine (toReg_c _ _ _ _ l _ hl hn' S6.out).mono ?_; rintro e w6 ⟨a6, rfl, hb6, hp6⟩; have D6 := BX6.drew.below hb6; have d60 := D6.cell 0 rfl; have d61 := D6.cell 1 rfl; have T6 := Lib.hid (OX6.drew.below hb6).sl; have U6 := Lib.hid hp6.sl) | (go_simp; go_at_call 20; with_reducible refine (eqReg_c _ _ _ _ _ _ l _ T6.out U6.out).mono ?_; rintro e w7 ⟨rfl, hb7⟩))
      all_goals
        have hbb7 := bstep (bstep (bdrew (Below.refl w5.heap.size w5)) hb6) hb7
        have z7 : w5.heap.size ≤ w7.heap.size := by have := hbb7.size; simpa using this
        have BP7 := BP6.below hbb7
        have BQ7 := BQ6.below hbb7
        have BW7 := BW6.below hbb7
        have BX7 := BX6.below hbb7
        have BG7 := BG6.below hbb7
        have OW7 := OW6.below hbb7
        have OX7 := OX6.below hbb7
        have OG7 := OG6.below hbb7
        have C7 := bstep C6 hbb7
        clear xP0 xP1 qP xX0 xX1 qX S6 BP6 BQ6 BW6 BX6 BG6 OW6 OX6 OG6 C6 hbb7 D6 d60 d61 T6 U6 hb6 hb7 hp6
        have xX0 := BX7.cell 0 rfl
        have xX1 := BX7.cell 1 rfl
        have qX := BX7.lt
        go_wp2_with fail
        refine (markReg_c 1 _ (by omega) (by omega) _ _ _ _ w3.heap.size _ _ hn' OX7 (OX7.slt ltX) (by omega)).mono ?_
        rintro e w8 ⟨rfl, hc8, hO8⟩
        have z8 : w7.heap.size ≤ w8.heap.size := by have := hc8.size; simpa using this
        have BP8 := BP7.chg hc8 (by omega)
        have BQ8 := BQ7.chg hc8 (by omega)
        have BW8 := BW7.chg hc8 (by omega)
        have BX8 := BX7.chg hc8 (by omega)
        have BG8 := BG7.chg hc8 (by omega)
        have OW8 := OW7.chg_lt ltW hc8 (by omega)
        have OG8 := OG7.chg hc8 (by omega)
        have C8 := bchg C7 hc8 (by omega)
        clear xX0 xX1 qX BP7 BQ7 BW7 BX7 BG7 OW7 OG7 C7 hc8 OX7
        have S9 := Lib.hid OG8.sl
        have U9 := Lib.hid OW8.sl
        have xG0 := BG8.cell 0 rfl
        have xG1 := BG8.cell 1 rfl
        have qG := BG8.lt
        have xW0 := BW8.cell 0 rfl
        have xW1 := BW8.cell 1 rfl
        have qW := BW8.lt
        go_wp2_with fail
        refine (eqReg_c _ _ _ _ _ _ L _ S9.out U9.out).mono ?_
        rintro e w9 ⟨rfl, hb9⟩
        have z9 : w8.heap.size ≤ w9.heap.size := by have := hb9.size; simpa using this
        have BP9 := BP8.below hb9
        have BQ9 := BQ8.below hb9
        have BW9 := BW8.below hb9
        have BG9 := BG8.below hb9
        have OW9 := OW8.below hb9
        have OG9 := OG8.below hb9
        have C9 := bstep C8 hb9
        clear xG0 xG1 qG xW0 xW1 qW ltX hO8 BX8 S9 U9 BP8 BQ8 BW8 BG8 OW8 OG8 C8 hb9
        have xG0 := BG9.cell 0 rfl
        have xG1 := BG9.cell 1 rfl
        have qG := BG9.lt
        go_wp2_with fail
        refine (markReg_c 1 _ (by omega) (by omega) _ _ _ _ t4 _ _ hlen OG9 (OG9.slt ltG) (by omega)).mono ?_
        rintro e w10 ⟨rfl, hc10, hO10⟩
        have z10 : w9.heap.size ≤ w10.heap.size := by have := hc10.size; simpa using this
        have BP10 := BP9.chg hc10 (by omega)
        have BQ10 := BQ9.chg hc10 (by omega)
        have BW10 := BW9.chg hc10 (by omega)
        have BG10 := BG9.chg hc10 (by omega)
        have OW10 := OW9.chg_lt ltW hc10 (by omega)
        have C10 := bchg C9 hc10 (by omega)
        clear xG0 xG1 qG BP9 BQ9 BW9 BG9 OW9 C9 hc10 OG9
        have S11 := Lib.hid hO10.sl
        have xG0 := BG10.cell 0 rfl
        have xG1 := BG10.cell 1 rfl
        have qG := BG10.lt
        go_wp2_with fail
        refine (heldReg_c 1 _ (by omega) (by omega) _ _ _ _ hlen S11.out).mono ?_
        rintro e w11 ⟨rfl, hb11⟩
        have z11 : w10.heap.size ≤ w11.heap.size := by have := hb11.size; simpa using this
        have BP11 := BP10.below hb11
        have BQ11 := BQ10.below hb11
        have BW11 := BW10.below hb11
        have BG11 := BG10.below hb11
        have OW11 := OW10.below hb11
        have OG11 := hO10.below hb11
        have C11 := bstep C10 hb11
        clear xG0 xG1 qG S11 BP10 BQ10 BW10 BG10 OW10 hO10 C10 hb11
        go_upto_region 24 with fail
        go_cut [14, 15] (fun s6 s7 wx => Laid 42 w11 N L.length (tkG L) V s6 s7 wx)
        case first =>
          have ZC := C11
          have ZB := BP11
          have ZQ := BQ11
          have zq := ZB.lt
          have zr := ZQ.lt
          go_region_held3 (fun w' => w'.cell? ⟨w.heap.size, 0, none⟩ = some (.int .i64 now) ∧ w'.cell? ⟨w.heap.size, 1, none⟩ = some (.slice a n cap) ∧ w'.cell? ⟨w.heap.size + 1, 0, none⟩ = some (.int .i64 ti) ∧ w'.cell? ⟨w.heap.size + 1, 1, none⟩ = some (.int .i64 ts))
            (exact ⟨(show Blk _ (w.heap.size) #[.int .i64 now, .slice a n cap] 37 from by repeat (first | with_reducible assumption | with_reducible refine Blk.drew ?_ | with_reducible refine Blk.alloc ?_ _ | with_reducible refine Blk.other ?_ (by omega) _ _)).cell 0 rfl, (show Blk _ (w.heap.size) #[.int .i64 now, .slice a n cap] 37 from by repeat (first | with_reducible assumption | with_reducible refine Blk.drew ?_ | with_reducible refine Blk.alloc ?_ _ | with_reducible refine Blk.other ?_ (by omega) _ _)).cell 1 rfl, (show Blk _ (w.heap.size + 1) #[.int .i64 ti, .int .i64 ts] 24 from by repeat (first | with_reducible assumption | with_reducible refine Blk.drew ?_ | with_reducible refine Blk.alloc ?_ _ | with_reducible refine Blk.other ?_ (by omega) _ _)).cell 0 rfl, (show Blk _ (w.heap.size + 1) #[.int .i64 ti, .int .i64 ts] 24 from by repeat (first | with_reducible assumption | with_reducible refine Blk.drew ?_ | with_reducible refine Blk.alloc ?_ _ | with_reducible refine Blk.other ?_ (by omega) _ _)).cell 1 rfl⟩)
            (first | (go_at_call 18; (first | with_reducible refine (toReg_c _ _ _ _ l _ hl hn' ((HS.out.below (bdrew ZC)).mono (Below.size (bdrew ZC)))).mono ?_ | with_reducible refine (toReg_c _ _ _ _ l _ hl hn' ((HS.out.below (bdrew (bpush ZC _))).mono (Below.size (bdrew (bpush ZC _))))).mono ?_ | with_reducible refine (toReg_c _ _ _ _ l _ hl hn' ((HS.out.below Ct).mono (Below.size Ct))).mono ?_ | with_reducible refine (toReg_c _ _ _ _ l _ hl hn' ((HS.out.below (bpush Ct _)).mono (Below.size (bpush Ct _)))).mono ?_); rintro e wr ⟨ar, rfl, hbr, hor⟩; have BPr := ((show Blk _ (w.heap.size) #[.int .i64 now, .slice a n cap] 37 from by repeat (first | with_reducible assumption | with_reducible refine Blk.drew ?_ | with_reducible refine Blk.alloc ?_ _ | with_reducible refine Blk.other ?_ (by omega) _ _))).below hbr; have BQr := ((show Blk _ (w.heap.size + 1) #[.int .i64 ti, .int .i64 ts] 24 from by repeat (first | with_reducible assumption | with_reducible refine Blk.drew ?_ | with_reducible refine Blk.alloc ?_ _ | with_reducible refine Blk.other ?_ (by omega) _ _))).below hbr; have Cr := bstep (show Below w.heap.size w _ from (by repeat (first | with_reducible assumption | with_reducible exact Below.refl _ _ | with_reducible refine bdrew ?_ | with_reducible refine bpush ?_ _))) hbr; have Dr := bstep (show Below w11.heap.size w11 _ from (by repeat (first | with_reducible assumption | with_reducible exact Below.refl _ _ | with_reducible refine bdrew ?_ | with_reducible refine bpush ?_ _))) hbr; have szr := hbr.size; (try simp at szr)) | (go_at_call 11; with_reducible refine (toTicket_c _ _ _).mono ?_; rintro e wt ⟨rfl, hbt⟩; have BPt := ((show Blk _ (w.heap.size) #[.int .i64 now, .slice a n cap] 37 from by repeat (first | with_reducible assumption | with_reducible refine Blk.drew ?_ | with_reducible refine Blk.alloc ?_ _ | with_reducible refine Blk.other ?_ (by omega) _ _))).below hbt; have BQt := ((show Blk _ (w.heap.size + 1) #[.int .i64 ti, .int .i64 ts] 24 from by repeat (first | with_reducible assumption | with_reducible refine Blk.drew ?_ | with_reducible refine Blk.alloc ?_ _ | with_reducible refine Blk.other ?_ (by omega) _ _))).below hbt; have Ct := bstep (show Below w.heap.size w _ from (by repeat (first | with_reducible assumption | with_reducible exact Below.refl _ _ | with_reducible refine bdrew ?_ | with_reducible refine bpush ?_ _))) hbt; have Dt := bstep (show Below w11.heap.size w11 _ from (by repeat (first | with_reducible assumption | with_reducible exact Below.refl _ _ | with_reducible refine bdrew ?_ | with_reducible refine bpush ?_ _))) hbt; have szt := hbt.size; (try simp at szt)) | (go_at_call 28; (first | with_reducible refine (HI.out _ _ _ ⟨Nat.le_refl n, (hor.below hbt).sl⟩).mono ?_ | with_reducible refine (HI.out _ _ _ ⟨Nat.le_refl n, ((hor.alloc _).below hbt).sl⟩).mono ?_ | with_reducible refine (HI.out _ _ _ ⟨Nat.le_refl n, hor.sl⟩).mono ?_ | with_reducible refine (HI.out _ _ _ ⟨Nat.le_refl n, ((hor.below hbt).alloc _).sl⟩).mono ?_ | with_reducible refine (HI.out _ _ _ ⟨Nat.le_refl n, (((hor.alloc _).below hbt).alloc _).sl⟩).mono ?_ | with_reducible refine (HI.out _ _ _ ⟨Nat.le_refl n, (hor.alloc _).sl⟩).mono ?_); rintro e ws ⟨a9, c9, rfl, hbs, hos⟩; have BPs := ((show Blk _ (w.heap.size) #[.int .i64 now, .slice a n cap] 37 from by repeat (first | with_reducible assumption | with_reducible refine Blk.drew ?_ | with_reducible refine Blk.alloc ?_ _ | with_reducible refine Blk.other ?_ (by omega) _ _))).below hbs; have BQs := ((show Blk _ (w.heap.size + 1) #[.int .i64 ti, .int .i64 ts] 24 from by repeat (first | with_reducible assumption | with_reducible refine Blk.drew ?_ | with_reducible refine Blk.alloc ?_ _ | with_reducible refine Blk.other ?_ (by omega) _ _))).below hbs; have Cs := bstep (show Below w.heap.size w _ from (by repeat (first | with_reducible assumption | with_reducible exact Below.refl _ _ | with_reducible refine bdrew ?_ | with_reducible refine bpush ?_ _))) hbs; have Ds := bstep (show Below w11.heap.size w11 _ from (by repeat (first | with_reducible assumption | with_reducible exact Below.refl _ _ | with_reducible refine bdrew ?_ | with_reducible refine bpush ?_ _))) hbs; have szs := hbs.size; (try simp at szs); first | (have OO := ((((Blk.new w11 #[.int .i64 0, .slice none 0 0] 42).drew.below hbr).below hbt).below hbs); have oo0 := OO.cell 0 rfl; have oo1 := OO.cell 1 rfl; have oo2 := OO.free 0; have oo3 := OO.free 1) | (have OO := ((((Blk.new w11 #[.int .i64 0, .slice none 0 0] 42).drew.below hbt).below hbr).below hbs); have oo0 := OO.cell 0 rfl; have oo1 := OO.cell 1 rfl; have oo2 := OO.free 0; have oo3 := OO.free 1) | (have OO := (((Blk.new wr #[.int .i64 0, .slice none 0 0] 42).below hbt).below hbs); have oo0 := OO.cell 0 rfl; have oo1 := OO.cell 1 rfl; have oo2 := OO.free 0; have oo3 := OO.free 1) | (have OO := (((Blk.new wt #[.int .i64 0, .slice none 0 0] 42).below hbr).below hbs); have oo0 := OO.cell 0 rfl; have oo1 := OO.cell 1 rfl; have oo2 := OO.free 0; have oo3 := OO.free 1) | (have OO := ((Blk.new wt #[.int .i64 0, .slice none 0 0] 42).below hbs); have oo0 := OO.cell 0 rfl; have oo1 := OO.cell 1 rfl; have oo2 := OO.free 0; have oo3 := OO.free 1) | (have OO := ((Blk.new wr #[.int .i64 0, .slice none 0 0] 42).below hbs); have oo0 := OO.cell 0 rfl; have oo1 := OO.cell 1 rfl; have oo2 := OO.free 0; have oo3 := OO.free 1) | skip) | fail)
          all_goals
            go_wp2_with fail
            go_meet
            case rel =>
              first
              | exact laid_old OO Ds hos (by first | omega | (simp <;> omega)) (by first | omega | (simp <;> omega))
              | exact laid_new Ds hos (by first | omega | (simp <;> omega))
              | fail
        case rest =>
          obtain ⟨w12, hw12⟩ : ∃ x, x = wc := ⟨_, rfl⟩
          subst hw12
          obtain ⟨O12, b12, t12, a12, c12, rfl, rfl, hb12, kk12a, kk12b, kk12c, kk12d, hO12, ho12, ltH⟩ := hcut
          have kk12e := hO12.lt
          have z12 : w11.heap.size ≤ w12.heap.size := by have := hb12.size; simpa using this
          have BP12 := BP11.below hb12
          have BQ12 := BQ11.below hb12
          have BW12 := BW11.below hb12
          have BG12 := BG11.below hb12
          have OW12 := OW11.below hb12
          have OG12 := OG11.below hb12
          have C12 := bstep C11 hb12
          clear BP11 BQ11 BW11 BG11 OW11 OG11 C11 hb12
          have S13 := Lib.hid ho12.sl
          have U13 := Lib.hid OW12.sl
          have xH0 := hO12.cell 0 rfl
          have xH1 := hO12.cell 1 rfl
          have qH := hO12.lt
          have xW0 := BW12.cell 0 rfl
          have xW1 := BW12.cell 1 rfl
          have qW := BW12.lt
          go_wp2_with fail
          refine (eqReg_c _ _ _ _ _ _ L _ S13.out U13.out).mono ?_
          rintro e w13 ⟨rfl, hb13⟩
          have z13 : w12.heap.size ≤ w13.heap.size := by have := hb13.size; simpa using this
          have BP13 := BP12.below hb13
          have BQ13 := BQ12.below hb13
          have BW13 := BW12.below hb13
          have BG13 := BG12.below hb13
          have BH13 := hO12.below hb13
          have OW13 := OW12.below hb13
          have OG13 := OG12.below hb13
          have OH13 := ho12.below hb13
          have C13 := bstep C12 hb13
          clear xH0 xH1 qH xW0 xW1 qW S13 U13 BP12 BQ12 BW12 BG12 hO12 OW12 OG12 ho12 C12 hb13
          have S14 := Lib.hid OG13.sl
          have xG0 := BG13.cell 0 rfl
          have xG1 := BG13.cell 1 rfl
          have qG := BG13.lt
          go_wp2_with fail
          refine (heldReg_c 1 _ (by omega) (by omega) _ _ _ _ hlen S14.out).mono ?_
          rintro e w14 ⟨rfl, hb14⟩
          have z14 : w13.heap.size ≤ w14.heap.size := by have := hb14.size; simpa using this
          have BP14 := BP13.below hb14
          have BQ14 := BQ13.below hb14
          have BW14 := BW13.below hb14
          have BG14 := BG13.below hb14
          have BH14 := BH13.below hb14
          have OW14 := OW13.below hb14
          have OG14 := OG13.below hb14
          have OH14 := OH13.below hb14
          have C14 := bstep C13 hb14
          clear xG0 xG1 qG S14 BP13 BQ13 BW13 BG13 BH13 OW13 OG13 OH13 C13 hb14
          go_wp2_with fail
          go_ret
          exact ⟨rfl, C14⟩

theorem own : ownKnob Try.prog.godebug = none := by kernel_rfl
theorem laidOut : laidOutB Try.prog = true := by kernel_rfl

set_option maxRecDepth 100000 in
theorem lifted (os : Os) (started : os.Started) (H : Type) (enc : TypeId × Value → H) :
    ReturnsInHanded {} Try.checked os 7 .any (Rows.fnExactRegisterTrySpec.pre6 enc Try.prog Try.f7 Rows.fnExactRegisterTryRow.domain false) (Rows.fnExactRegisterTrySpec.post enc Try.prog Try.f7 false true false false) := by
  refine returnsInHanded_of_change (C := Try.checked) own started (by kernel_rfl) Try.func7
    (ChangeSpec.witness6 (enc := enc) (C := Try.checked) false ⟨#[], #[.agg #[.int .i64 0, .slice none 0 0], .agg #[.int .i64 0, .int .i64 0]], []⟩ 8 (by kernel_rfl) (by kernel_rfl) (by kernel_rfl) (by kernel_rfl)) ?_
  intro W base args ds gs before hval0 hW hcnd _
  have hval : ∀ (j : Nat) t v, Try.f7.params[j]? = some t → args[j]? = some v → Value.okWide Try.prog W .any base t v := hval0
  have hW' := hW
  obtain ⟨p, q, hA0, hV, rfl, hfz, hnd⟩ := hW
  have hA : DataW.TrodAll enc Try.prog W 0 (fun _ => true) true Try.f7.params.toList args.toList ds p := hA0
  rw [Try.params7] at hA hval
  obtain ⟨v0, vs0, d0, ds0, p0, q0, hargs, rfl, rfl, h0, r0⟩ := trodAll_cons hA
  obtain ⟨v1, vs1, d1, ds1, p1, q1, rfl, rfl, rfl, h1, r1⟩ := trodAll_cons r0
  obtain ⟨rfl, rfl, rfl⟩ := trodAll_nil r1
  obtain rfl : args = #[v0, v1] := by cases args; simp_all
  obtain ⟨rfl, rfl⟩ := trodVars_none hV
  have k0 := h0
  have lt0 : ∀ x ∈ p0, x.block < W.heap.size := by obtain ⟨m, hm⟩ := k0; exact DataW.trod_lt m _ _ _ hm
  have k1 := h1
  have lt1 : ∀ x ∈ p1, x.block < W.heap.size := by obtain ⟨m, hm⟩ := k1; exact DataW.trod_lt m _ _ _ hm
  obtain ⟨c0a, c0b, y0a, y0b, m0, rfl, rfl, hp0, hy0a, hy0b⟩ := open_agg2 Try.underlying37 (by kernel_rfl) (by kernel_rfl) (hval 0 37 v0 rfl rfl) h0
  obtain ⟨x0a, e0a, f0a, w0a⟩ := DataW.trod_int Try.underlying3 hy0a
  simp at e0a f0a
  subst e0a
  obtain ⟨a0, n0, q0, l0, e0b, o0, s0⟩ := open_tks Try.underlying35 Try.underlying24 (by kernel_rfl) (by kernel_rfl) rfl rfl Try.underlying3 hy0b
  subst e0b
  obtain ⟨c1a, c1b, y1a, y1b, m1, rfl, rfl, hp1, hy1a, hy1b⟩ := open_agg2 Try.underlying24 (by kernel_rfl) (by kernel_rfl) (hval 1 24 v1 rfl rfl) h1
  obtain ⟨x1a, e1a, f1a, w1a⟩ := DataW.trod_int Try.underlying3 hy1a
  simp at e1a f1a
  subst e1a
  obtain ⟨x1b, e1b, f1b, w1b⟩ := DataW.trod_int Try.underlying3 hy1b
  simp at e1b f1b
  subst e1b
  clear hA0 hval0
  refine (walk x0a a0 n0 q0 l0 x1a x1b W o0 s0 ).mono fun e W' ⟨he, bel⟩ => ?_
  subst he
  exact ⟨_, rfl, _, _, _, [], _, [], hW', trodAll_mk1 (shut_bool Try.underlying4 _), (trodAll_cons_mk (Below.trod laidOut (by kernel_rfl) (of_decide_eq_true (by kernel_rfl)) k0 bel lt0) (trodAll_cons_mk (Below.trod laidOut (by kernel_rfl) (of_decide_eq_true (by kernel_rfl)) k1 bel lt1) trodAll_mk0)), rfl, bel.frame _, fun h => by cases h⟩

theorem over : Rows.fnExactRegisterTryRow.holds Try.pinned (OpenSpec.ofChange Rows.fnExactRegisterTrySpec) :=
  OpenClaim.holds_of_wide 7 Try.f7 rfl rfl rfl rfl rfl rfl rfl ⟨rfl, rfl, rfl, rfl, rfl⟩ rfl rfl rfl rfl rfl (by kernel_rfl) Try.func7 (by kernel_rfl)
    (of_decide_eq_true (by kernel_rfl)) (by unfold Func.isWrapper; first | (rw [if_pos (by decide +kernel)]; kernel_rfl) | (rw [if_neg (by decide +kernel)]; exact ⟨rfl, rfl⟩))
    (fun os started H enc _ => lifted os started H enc)

/-- The given statement. -/
theorem proved : Rows.FnExactRegisterTrySaid := over
end Go.Proofs.Ytjlaikmilcgmhaa.fnExactRegisterTry
