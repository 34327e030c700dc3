/- The program's RegisterTick returns what the reference's returns, for all arguments, leaves its argument as it was, and hands back memory that nothing else shares.
   No condition: it holds for every input. -/
import Derived.Test.YtjlaikmilcgmhaaRows
import Derived.WalkKit
import Derived.ProofKit
import Derived.OpenShut
import Derived.ShutString
import Derived.ChangeOld
import Derived.Below
import Derived.Lib.SmallJoins
import Derived.Test.YtjlaikmilcgmhaaGf
import Derived.Test.YtjlaikmilcgmhaaGg
import Derived.Test.YtjlaikmilcgmhaaGj
import Derived.Test.YtjlaikmilcgmhaaGk
namespace Go.Proofs.Ytjlaikmilcgmhaa.fnExactRegisterTick
open Go.ChangeShapes Go.WideShapes Go.ChangeAt Go.RowKit Go.Joins
open Go.ChangeMaps (open_string shut_string)
set_option linter.unusedVariables false

theorem tickS_len (now : Int) (l : TL) (c : Int) : (tickS now l c).length ≤ l.length := by
  unfold tickS; split
  · exact List.length_filter_le _ _
  · simp
theorem rticki (now c : Int) (a : Option Addr) (n cap : Nat) (l : List (Int × Int)) (w : World) (hl : l.length = n) (S : Sl 2 w w.heap.size a n (tkG l)) :
    Calls Try.prog 22 #[.agg #[.int .i64 now, .slice a n cap], .int .i64 c] w (Stepped w (tickN now l c) (tickS now l c) (tickOk now l c)) := rtick_impl now c a n cap l w hl S
theorem rticks (now c : Int) (a : Option Addr) (n cap : Nat) (l : List (Int × Int)) (w : World) (hl : l.length = n) (S : Sl 2 w w.heap.size a n (tkG l)) :
    Calls Try.prog 23 #[.agg #[.int .i64 now, .slice a n cap], .int .i64 c] w (Stepped w (tickN now l c) (tickS now l c) (tickOk now l c)) := rtick_spec now c a n cap l w hl S
set_option maxRecDepth 100000 in
set_option maxHeartbeats 4000000 in
theorem walk (now : Int) (a : Option Addr) (n cap : Nat) (l : List (Int × Int)) (c : Int) (w : World) (hl : l.length = n) (S : Sl 2 w w.heap.size a n (tkG l)) (hw : (Lit.int .i64 c).wf = true) :
    Calls Try.prog 6 #[.agg #[.int .i64 now, .slice a n cap], .int .i64 c] w fun e w' => e = .returned (.bool true) ∧ Below w.heap.size w w' := by
  have hn := S.len
  have hc0 := bpush (Below.refl w.heap.size w) (Obj.cells #[.int .i64 now, .slice a n cap] 37)
  have BPn := Blk.new w #[.int .i64 now, .slice a n cap] 37
  by_cases h : (1048576 : Int) < (n : Int)
  · have E : szF 1048576 n = -1 := by unfold szF; rw [if_pos h]
    clear S
    go_enter Try.func6, Try.ntmps6
    go_wp2_with fail
    refine (szReg_c _ _ _ _ _ _ (by omega) (by omega) hn).mono ?_
    rintro e w1 ⟨rfl, hb1⟩
    rw [E]
    go_wp2_with fail
    go_ret
    exact ⟨rfl, bstep hc0 hb1⟩
  have hn' : n ≤ 1048576 := by omega
  have E : szF 1048576 n = 1048576 - n := by unfold szF; rw [if_neg h]
  have HS := Lib.hid S; clear S
  have hlen : (tickS now l c).length ≤ 1048576 := by have := tickS_len now l c; omega
  have HI := Lib.hid (fun a cap w S => rticki now c a n cap l w hl S)
  have HP := Lib.hid (fun a cap w S => rticks now c a n cap l w hl S)
  generalize tickS now l c = L at hlen HI HP
  generalize tickN now l c = N at HI HP
  generalize tickOk now l c = V at HI HP
  go_enter Try.func6, Try.ntmps6
  go_wp2_with fail
  refine (szReg_c _ _ _ _ _ _ (by omega) (by omega) hn).mono ?_
  rintro e w1 ⟨rfl, hb1⟩
  rw [E]
  clear E h
  have z1 : w.heap.size + 1 ≤ w1.heap.size := by have := hb1.size; simpa using this
  have BP1 := BPn.below hb1
  have C1 := bstep hc0 hb1
  clear BPn hc0 hb1
  have S2 := Lib.hid ((HS.out.below C1).mono C1.size)
  have xP0 := BP1.cell 0 rfl
  have xP1 := BP1.cell 1 rfl
  have qP := BP1.lt
  go_wp2_with fail
  refine (toReg_c _ _ _ _ l _ hl hn' S2.out).mono ?_
  rintro e w2 ⟨a2, rfl, hb2, ho2⟩
  have z2 : w1.heap.size ≤ w2.heap.size := by have := hb2.size; simpa using this
  have BP2 := BP1.below hb2
  have C2 := bstep C1 hb2
  have ltT := ho2.lt
  clear xP0 xP1 qP S2 BP1 C1 hb2
  have S3 := Lib.hid ho2.sl
  go_wp2_with fail
  refine (HP.out _ _ _ S3.out).mono ?_
  rintro e w3 ⟨a3, cap3, rfl, hb3, ho3⟩
  have z3 : w2.heap.size ≤ w3.heap.size := by have := hb3.size; simpa using this
  have BP3 := BP2.below hb3
  have OT3 := ho2.below hb3
  have C3 := bstep C2 hb3
  have ltW := ho3.lt
  clear S3 BP2 ho2 C2 hb3
  have A4 := bpush (Below.refl w3.heap.size w3) (Obj.cells #[.int .i64 N, .slice a3 L.length cap3] 42)
  have BWn := Blk.new w3 #[.int .i64 N, .slice a3 L.length cap3] 42
  have z4 : w3.heap.size ≤ w3.heap.size + 1 := by simp
  have BP4 := BP3.below A4
  have OT4 := OT3.below A4
  have OW4 := ho3.below A4
  have C4 := bstep C3 A4
  have S4 := Lib.hid ((HS.out.below C4).mono C4.size)
  have xP0 := BP4.cell 0 rfl
  have xP1 := BP4.cell 1 rfl
  have qP := BP4.lt
  simp only [World.size_alloc] at qP
  go_wp2_with fail
  refine (toReg_c _ _ _ _ l _ hl hn' S4.out).mono ?_
  rintro e w4 ⟨a4, rfl, hb4, ho4⟩
  simp only [World.size_alloc] at ho4
  have z5 : w3.heap.size + 1 ≤ w4.heap.size := by have := hb4.size; simpa using this
  have BP5 := BP4.below hb4
  have BW5 := BWn.below hb4
  have OW5 := OW4.below hb4
  have C5 := bstep C4 hb4
  have ltX := ho4.lt
  clear xP0 xP1 qP BP3 OT3 ho3 C3 A4 OT4 ltT S4 BP4 BWn OW4 C4 hb4
  have A6 := bpush (Below.refl w4.heap.size w4) (Obj.cells #[.int .i64 now, .slice a4 n n] 42)
  have BXn := Blk.new w4 #[.int .i64 now, .slice a4 n n] 42
  have z6 : w4.heap.size ≤ w4.heap.size + 1 := by simp
  have BP6 := BP5.below A6
  have BW6 := BW5.below A6
  have OW6 := OW5.below A6
  have OX6 := ho4.below A6
  have C6 := bstep C5 A6
  have S5 := Lib.hid OX6.sl
  have xX0 := BXn.cell 0 rfl
  have xX1 := BXn.cell 1 rfl
  have qX := BXn.lt
  simp only [World.size_alloc] at qX
  go_wp2_with fail
  refine (HI.out _ _ _ S5.out).mono ?_
  rintro e w5 ⟨a5, cap5, rfl, hb5, ho5⟩
  simp only [World.size_alloc] at ho5
  have z7 : w4.heap.size + 1 ≤ w5.heap.size := by have := hb5.size; simpa using this
  have BP7 := BP6.below hb5
  have BW7 := BW6.below hb5
  have BX7 := BXn.below hb5
  have OW7 := OW6.below hb5
  have OX7 := OX6.below hb5
  have C7 := bstep C6 hb5
  have ltG := ho5.lt
  clear xX0 xX1 qX BP5 BW5 OW5 ho4 C5 A6 S5 BP6 BW6 BXn OW6 OX6 C6 hb5
  have A8 := bpush (Below.refl w5.heap.size w5) (Obj.cells #[.int .i64 N, .slice a5 L.length cap5] 42)
  have BGn := Blk.new w5 #[.int .i64 N, .slice a5 L.length cap5] 42
  have z8 : w5.heap.size ≤ w5.heap.size + 1 := by simp
  have BP8 := BP7.below A8
  have BW8 := BW7.below A8
  have BX8 := BX7.below A8
  have OW8 := OW7.below A8
  have OX8 := OX7.below A8
  have OG8 := ho5.below A8
  have C8 := bstep C7 A8
  have S6 := Lib.hid OG8.sl
  have U6 := Lib.hid OW8.sl
  have xG0 := BGn.cell 0 rfl
  have xG1 := BGn.cell 1 rfl
  have qG := BGn.lt
  simp only [World.size_alloc] at qG
  have xW0 := BW8.cell 0 rfl
  have xW1 := BW8.cell 1 rfl
  have qW := BW8.lt
  simp only [World.size_alloc] at qW
  go_wp2_with fail
  refine (eqReg_c _ _ _ _ _ _ L _ S6.out U6.out).mono ?_
  rintro e w6 ⟨rfl, hb6⟩
  have z9 : w5.heap.size + 1 ≤ w6.heap.size := by have := hb6.size; simpa using this
  have BP9 := BP8.below hb6
  have BW9 := BW8.below hb6
  have BX9 := BX8.below hb6
  have BG9 := BGn.below hb6
  have OW9 := OW8.below hb6
  have OX9 := OX8.below hb6
  have OG9 := OG8.below hb6
  have C9 := bstep C8 hb6
  clear xG0 xG1 qG xW0 xW1 qW BP7 BW7 BX7 OW7 OX7 ho5 C7 A8 S6 U6 BP8 BW8 BX8 BGn OW8 OX8 OG8 C8 hb6
  have S7 := Lib.hid (show Sl 2 w6.drew w6.drew.heap.size a n (tkG l) from (HS.out.below (bdrew C9)).mono C9.size)
  have xP0 := BP9.cell 0 rfl
  have xP1 := BP9.cell 1 rfl
  have qP := BP9.lt
  have xX0 := BX9.cell 0 rfl
  have xX1 := BX9.cell 1 rfl
  have qX := BX9.lt
  go_wp2_with fail
  go_region_law (first | (go_simp; go_at_call 18; with_reducible refine (toReg_c _ _ _ _ l _ hl hn' S7.out).mono ?_; rintro e w7 ⟨a7, rfl, hb7, hp7⟩; have D7 := BX9.drew.below hb7; have d70 := D7.cell 0 rfl; have d71 := D7.cell 1 rfl; have T7 := Lib.hid (OX9.drew.below hb7).sl; have U7 := Lib.hid hp7.sl) | (go_simp; go_at_call 20; with_reducible refine (eqReg_c _ _ _ _ _ _ l _ T7.out U7.out).mono ?_; rintro e w8 ⟨rfl, hb8⟩))
  all_goals
    have hbb8 := bstep (bstep (bdrew (Below.refl w6.heap.size w6)) hb7) hb8
    have z10 : w6.heap.size ≤ w8.heap.size := by have := hbb8.size; simpa using this
    have BP10 := BP9.below hbb8
    have BW10 := BW9.below hbb8
    have BX10 := BX9.below hbb8
    have BG10 := BG9.below hbb8
    have OW10 := OW9.below hbb8
    have OX10 := OX9.below hbb8
    have OG10 := OG9.below hbb8
    have C10 := bstep C9 hbb8
    clear xP0 xP1 qP xX0 xX1 qX S7 BP9 BW9 BX9 BG9 OW9 OX9 OG9 C9 hbb8 D7 d70 d71 T7 U7 hb7 hb8 hp7
    have xX0 := BX10.cell 0 rfl
    have xX1 := BX10.cell 1 rfl
    have qX := BX10.lt
    go_wp2_with fail
    refine (markReg_c 1 _ (by omega) (by omega) _ _ _ _ w4.heap.size _ _ hn' OX10 (OX10.slt ltX) (by omega)).mono ?_
    rintro e w9 ⟨rfl, hc9, hO9⟩
    have z11 : w8.heap.size ≤ w9.heap.size := by have := hc9.size; simpa using this
    have BP11 := BP10.chg hc9 (by omega)
    have BW11 := BW10.chg hc9 (by omega)
    have BX11 := BX10.chg hc9 (by omega)
    have BG11 := BG10.chg hc9 (by omega)
    have OW11 := OW10.chg_lt ltW hc9 (by omega)
    have OG11 := OG10.chg hc9 (by omega)
    have C11 := bchg C10 hc9 (by omega)
    clear xX0 xX1 qX BP10 BW10 BX10 BG10 OW10 OG10 C10 hc9 OX10
    have S10 := Lib.hid OG11.sl
    have U10 := Lib.hid OW11.sl
    have xG0 := BG11.cell 0 rfl
    have xG1 := BG11.cell 1 rfl
    have qG := BG11.lt
    have xW0 := BW11.cell 0 rfl
    have xW1 := BW11.cell 1 rfl
    have qW := BW11.lt
    go_wp2_with fail
    refine (eqReg_c _ _ _ _ _ _ L _ S10.out U10.out).mono ?_
    rintro e w10 ⟨rfl, hb10⟩
    have z12 : w9.heap.size ≤ w10.heap.size := by have := hb10.size; simpa using this
    have BP12 := BP11.below hb10
    have BW12 := BW11.below hb10
    have BG12 := BG11.below hb10
    have OW12 := OW11.below hb10
    have OG12 := OG11.below hb10
    have C12 := bstep C11 hb10
    clear xG0 xG1 qG xW0 xW1 qW ltX hO9 BX11 S10 U10 BP11 BW11 BG11 OW11 OG11 C11 hb10
    have xG0 := BG12.cell 0 rfl
    have xG1 := BG12.cell 1 rfl
    have qG := BG12.lt
    go_wp2_with fail
    refine (markReg_c 1 _ (by omega) (by omega) _ _ _ _ w5.heap.size _ _ hlen OG12 (OG12.slt ltG) (by omega)).mono ?_
    rintro e w11 ⟨rfl, hc11, hO11⟩
    have z13 : w10.heap.size ≤ w11.heap.size := by have := hc11.size; simpa using this
    have BP13 := BP12.chg hc11 (by omega)
    have BW13 := BW12.chg hc11 (by omega)
    have BG13 := BG12.chg hc11 (by omega)
    have OW13 := OW12.chg_lt ltW hc11 (by omega)
    have C13 := bchg C12 hc11 (by omega)
    clear xG0 xG1 qG BP12 BW12 BG12 OW12 C12 hc11 OG12
    have S12 := Lib.hid hO11.sl
    have xG0 := BG13.cell 0 rfl
    have xG1 := BG13.cell 1 rfl
    have qG := BG13.lt
    go_wp2_with fail
    refine (heldReg_c 1 _ (by omega) (by omega) _ _ _ _ hlen S12.out).mono ?_
    rintro e w12 ⟨rfl, hb12⟩
    have z14 : w11.heap.size ≤ w12.heap.size := by have := hb12.size; simpa using this
    have BP14 := BP13.below hb12
    have BW14 := BW13.below hb12
    have BG14 := BG13.below hb12
    have OW14 := OW13.below hb12
    have OG14 := hO11.below hb12
    have C14 := bstep C13 hb12
    clear xG0 xG1 qG S12 BP13 BW13 BG13 OW13 hO11 C13 hb12
    have S13 := Lib.hid ((HS.out.below C14).mono C14.size)
    have xP0 := BP14.cell 0 rfl
    have xP1 := BP14.cell 1 rfl
    have qP := BP14.lt
    go_wp2_with fail
    refine (toReg_c _ _ _ _ l _ hl hn' S13.out).mono ?_
    rintro e w13 ⟨a13, rfl, hb13, ho13⟩
    have z15 : w12.heap.size ≤ w13.heap.size := by have := hb13.size; simpa using this
    have BP15 := BP14.below hb13
    have BW15 := BW14.below hb13
    have BG15 := BG14.below hb13
    have OW15 := OW14.below hb13
    have OG15 := OG14.below hb13
    have C15 := bstep C14 hb13
    have ltT := ho13.lt
    clear xP0 xP1 qP S13 BP14 BW14 BG14 OW14 OG14 C14 hb13
    have S14 := Lib.hid ho13.sl
    go_wp2_with fail
    refine (HI.out _ _ _ S14.out).mono ?_
    rintro e w14 ⟨a14, cap14, rfl, hb14, ho14⟩
    have z16 : w13.heap.size ≤ w14.heap.size := by have := hb14.size; simpa using this
    have BP16 := BP15.below hb14
    have BW16 := BW15.below hb14
    have BG16 := BG15.below hb14
    have OW16 := OW15.below hb14
    have OG16 := OG15.below hb14
    have OT16 := ho13.below hb14
    have C16 := bstep C15 hb14
    have ltH := ho14.lt
    clear S14 BP15 BW15 BG15 OW15 OG15 ho13 C15 hb14
    have A17 := bpush (Below.refl w14.heap.size w14) (Obj.cells #[.int .i64 N, .slice a14 L.length cap14] 42)
    have BHn := Blk.new w14 #[.int .i64 N, .slice a14 L.length cap14] 42
    have z17 : w14.heap.size ≤ w14.heap.size + 1 := by simp
    have BP17 := BP16.below A17
    have BW17 := BW16.below A17
    have BG17 := BG16.below A17
    have OW17 := OW16.below A17
    have OG17 := OG16.below A17
    have OT17 := OT16.below A17
    have OH17 := ho14.below A17
    have C17 := bstep C16 A17
    have S15 := Lib.hid OH17.sl
    have U15 := Lib.hid OW17.sl
    have xH0 := BHn.cell 0 rfl
    have xH1 := BHn.cell 1 rfl
    have qH := BHn.lt
    simp only [World.size_alloc] at qH
    have xW0 := BW17.cell 0 rfl
    have xW1 := BW17.cell 1 rfl
    have qW := BW17.lt
    simp only [World.size_alloc] at qW
    go_wp2_with fail
    refine (eqReg_c _ _ _ _ _ _ L _ S15.out U15.out).mono ?_
    rintro e w15 ⟨rfl, hb15⟩
    have z18 : w14.heap.size + 1 ≤ w15.heap.size := by have := hb15.size; simpa using this
    have BP18 := BP17.below hb15
    have BW18 := BW17.below hb15
    have BG18 := BG17.below hb15
    have BH18 := BHn.below hb15
    have OW18 := OW17.below hb15
    have OG18 := OG17.below hb15
    have OH18 := OH17.below hb15
    have C18 := bstep C17 hb15
    clear xH0 xH1 qH xW0 xW1 qW BP16 BW16 BG16 OW16 OG16 OT16 ho14 C16 A17 OT17 ltT S15 U15 BP17 BW17 BG17 BHn OW17 OG17 OH17 C17 hb15
    have S16 := Lib.hid OG18.sl
    have xG0 := BG18.cell 0 rfl
    have xG1 := BG18.cell 1 rfl
    have qG := BG18.lt
    go_wp2_with fail
    refine (heldReg_c 1 _ (by omega) (by omega) _ _ _ _ hlen S16.out).mono ?_
    rintro e w16 ⟨rfl, hb16⟩
    have z19 : w15.heap.size ≤ w16.heap.size := by have := hb16.size; simpa using this
    have BP19 := BP18.below hb16
    have BW19 := BW18.below hb16
    have BG19 := BG18.below hb16
    have BH19 := BH18.below hb16
    have OW19 := OW18.below hb16
    have OG19 := OG18.below hb16
    have OH19 := OH18.below hb16
    have C19 := bstep C18 hb16
    clear xG0 xG1 qG S16 BP18 BW18 BG18 BH18 OW18 OG18 OH18 C18 hb16
    go_wp2_with fail
    go_ret
    exact ⟨rfl, C19⟩

theorem own : ownKnob Try.prog.godebug = none := by kernel_rfl
theorem laidOut : laidOutB Try.prog = true := by kernel_rfl

set_option maxRecDepth 100000 in
theorem lifted (os : Os) (started : os.Started) (H : Type) (enc : TypeId × Value → H) :
    ReturnsInHanded {} Try.checked os 6 .any (Rows.fnExactRegisterTickSpec.pre6 enc Try.prog Try.f6 Rows.fnExactRegisterTickRow.domain false) (Rows.fnExactRegisterTickSpec.post enc Try.prog Try.f6 false true false false) := by
  refine returnsInHanded_of_change (C := Try.checked) own started (by kernel_rfl) Try.func6
    (ChangeSpec.witness6 (enc := enc) (C := Try.checked) false ⟨#[], #[.agg #[.int .i64 0, .slice none 0 0], .int .i64 0], []⟩ 8 (by kernel_rfl) (by kernel_rfl) (by kernel_rfl) (by kernel_rfl)) ?_
  intro W base args ds gs before hval0 hW hcnd _
  have hval : ∀ (j : Nat) t v, Try.f6.params[j]? = some t → args[j]? = some v → Value.okWide Try.prog W .any base t v := hval0
  have hW' := hW
  obtain ⟨p, q, hA0, hV, rfl, hfz, hnd⟩ := hW
  have hA : DataW.TrodAll enc Try.prog W 0 (fun _ => true) true Try.f6.params.toList args.toList ds p := hA0
  rw [Try.params6] at hA hval
  obtain ⟨v0, vs0, d0, ds0, p0, q0, hargs, rfl, rfl, h0, r0⟩ := trodAll_cons hA
  obtain ⟨v1, vs1, d1, ds1, p1, q1, rfl, rfl, rfl, h1, r1⟩ := trodAll_cons r0
  obtain ⟨rfl, rfl, rfl⟩ := trodAll_nil r1
  obtain rfl : args = #[v0, v1] := by cases args; simp_all
  obtain ⟨rfl, rfl⟩ := trodVars_none hV
  have k0 := h0
  have lt0 : ∀ x ∈ p0, x.block < W.heap.size := by obtain ⟨m, hm⟩ := k0; exact DataW.trod_lt m _ _ _ hm
  have k1 := h1
  have lt1 : ∀ x ∈ p1, x.block < W.heap.size := by obtain ⟨m, hm⟩ := k1; exact DataW.trod_lt m _ _ _ hm
  obtain ⟨c0a, c0b, y0a, y0b, m0, rfl, rfl, hp0, hy0a, hy0b⟩ := open_agg2 Try.underlying37 (by kernel_rfl) (by kernel_rfl) (hval 0 37 v0 rfl rfl) h0
  obtain ⟨x0a, e0a, f0a, w0a⟩ := DataW.trod_int Try.underlying3 hy0a
  simp at e0a f0a
  subst e0a
  obtain ⟨a0, n0, q0, l0, e0b, o0, s0⟩ := open_tks Try.underlying35 Try.underlying24 (by kernel_rfl) (by kernel_rfl) rfl rfl Try.underlying3 hy0b
  subst e0b
  obtain ⟨a1, rfl, rfl, rfl, w1⟩ := open_int Try.underlying3 (hval 1 3 v1 rfl rfl) h1
  clear hA0 hval0
  refine (walk x0a a0 n0 q0 l0 a1 W o0 s0 w1).mono fun e W' ⟨he, bel⟩ => ?_
  subst he
  exact ⟨_, rfl, _, _, _, [], _, [], hW', trodAll_mk1 (shut_bool Try.underlying4 _), (trodAll_cons_mk (Below.trod laidOut (by kernel_rfl) (of_decide_eq_true (by kernel_rfl)) k0 bel lt0) (trodAll_cons_mk (Below.trod laidOut (by kernel_rfl) (of_decide_eq_true (by kernel_rfl)) k1 bel lt1) trodAll_mk0)), rfl, bel.frame _, fun h => by cases h⟩

theorem over : Rows.fnExactRegisterTickRow.holds Try.pinned (OpenSpec.ofChange Rows.fnExactRegisterTickSpec) :=
  OpenClaim.holds_of_wide 6 Try.f6 rfl rfl rfl rfl rfl rfl rfl ⟨rfl, rfl, rfl, rfl, rfl⟩ rfl rfl rfl rfl rfl (by kernel_rfl) Try.func6 (by kernel_rfl)
    (of_decide_eq_true (by kernel_rfl)) (by unfold Func.isWrapper; first | (rw [if_pos (by decide +kernel)]; kernel_rfl) | (rw [if_neg (by decide +kernel)]; exact ⟨rfl, rfl⟩))
    (fun os started H enc _ => lifted os started H enc)

/-- The given statement. -/
theorem proved : Rows.FnExactRegisterTickSaid := over
end Go.Proofs.Ytjlaikmilcgmhaa.fnExactRegisterTick
