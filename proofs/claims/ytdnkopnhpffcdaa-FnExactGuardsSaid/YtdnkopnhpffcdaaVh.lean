/- Lists of atoms, of both programs. -/
import Derived.Test.YtdnkopnhpffcdaaVf
import Derived.Test.YtdnkopnhpffcdaaVg
import Derived.Deep.AppendLies
namespace Go.Proofs.Ytdnkopnhpffcdaa
open Go.RowKit
set_option linter.unusedVariables false

theorem infoIn : (Try.prog.info? 3).map (fun i => (i.zero, i.size, i.bytes)) = some (some (.int .i64 0), 1, 8) := by kernel_rfl
/-- Numbers as cells. -/
def ints (l : List Int) : List Value := l.map (Value.int .i64)
theorem ints_len (l : List Int) : (ints l).length = l.length := by simp [ints]
theorem ints_snoc (l : List Int) (x : Int) : ints (l ++ [x]) = ints l ++ [.int .i64 x] := by simp [ints]
theorem ints_at (l : List Int) : ∀ i, i < l.length → ∀ j, j < 1 → (ints l)[i * 1 + j]? = some (inG l i j) := by
  intro i hi j hj
  obtain rfl : j = 0 := by omega
  rw [Nat.mul_one, Nat.add_zero]
  unfold ints inG
  rw [List.getElem?_map, List.getElem?_eq_getElem hi, List.getD_eq_getElem?_getD, List.getElem?_eq_getElem hi]
  rfl
/-- What a function that hands back a list of numbers leaves. -/
def GotI (w : World) (L : List Int) (e : Ending) (w' : World) : Prop :=
  ∃ (a : Option Addr) (c : Nat), e = .returned (.slice a L.length c) ∧ Below w.heap.size w w' ∧ w'.ownsRow w.heap.size 3 1 (.slice a L.length c) L.length (ints L)
theorem isl_row {w : World} {base cap : Nat} {a : Option Addr} {l : List Int} (h : w.ownsRow base 3 1 (.slice a l.length cap) l.length (ints l)) (hn : l.length ≤ 1048576) : Ow 1 w base a l.length (inG l) :=
  ow_of_row h (by omega) (ints_at l)
theorem own_nil (w : World) (base : Nat) : w.ownsRow base 3 1 (.slice none 0 0) 0 (ints []) := ⟨rfl, .inl ⟨rfl, rfl⟩⟩
theorem own_emp {w : World} {base b : Nat} (h : Blk w b #[] 3) (hb : base ≤ b) : w.ownsRow base 3 1 (.slice (some ⟨b, 0, none⟩) (0 : Nat) 0) 0 (ints []) :=
  ⟨rfl, .inr ⟨b, 0, #[], rfl, hb, h, Nat.le_refl _, by unfold maxLen; omega, rfl, rfl⟩⟩
theorem row_grown {w w' : World} {base k n : Nat} {e : TypeId} {v : Value} {xs : List Value} {r : Option Nat} (h : w.ownsRow base e k v n xs) (hg : w.grownBy w' r) (hne : ∀ g, v.ownBlock = some g → r ≠ some g) : w'.ownsRow base e k v n xs := by
  obtain ⟨hl, h | ⟨g, cap, cur, h, hb, hc, h'⟩⟩ := h
  · exact ⟨hl, .inl h⟩
  · have hlt : g < w.heap.size := (Array.getElem?_eq_some_iff.1 hc).1
    exact ⟨hl, .inr ⟨g, cap, cur, h, hb, (hg.block g hlt (Ne.symm (hne g (by rw [h]; rfl)))).trans hc, h'⟩⟩
def lstA (f : Int → Bool) (k : Nat) : List Int := (atomsTo k).filter f
theorem lstA_yes {f : Int → Bool} {k : Nat} (h : f ((k : Int) + 1) = true) : lstA f (k + 1) = lstA f k ++ [(k : Int) + 1] := by
  unfold lstA; rw [atoms_succ, List.filter_append]; simp [h]
theorem lstA_no {f : Int → Bool} {k : Nat} (h : f ((k : Int) + 1) = false) : lstA f (k + 1) = lstA f k := by
  unfold lstA; rw [atoms_succ, List.filter_append]; simp [h]
theorem lstA_len (f : Int → Bool) (k : Nat) : (lstA f k).length ≤ k := by
  have := List.length_filter_le f (atomsTo k)
  rw [atoms_len] at this
  exact this
def lstB (f : Nat → Bool) (k : Nat) : List Int := ((List.range k).filter f).map fun (i : Nat) => (i : Int)
theorem lstB_yes {f : Nat → Bool} {k : Nat} (h : f k = true) : lstB f (k + 1) = lstB f k ++ [(k : Int)] := by
  unfold lstB; rw [List.range_succ, List.filter_append]; simp [h]
theorem lstB_no {f : Nat → Bool} {k : Nat} (h : f k = false) : lstB f (k + 1) = lstB f k := by
  unfold lstB; rw [List.range_succ, List.filter_append]; simp [h]
theorem lstB_len (f : Nat → Bool) (k : Nat) : (lstB f k).length ≤ k := by
  have := List.length_filter_le f (List.range k)
  rw [List.length_range] at this
  unfold lstB
  rw [List.length_map]; exact this
def openI (bs : BX) (kn : List Int) : List Int := lstB (fun i => decide ((bs.getD i (0, [])).1 ∈ derL bs kn)) bs.length
theorem openI_none {bs : BX} {kn : List Int} (h : secOk bs kn = false) : openI bs kn = [] := by
  unfold openI lstB derL
  rw [h]
  simp
theorem fin_mem {bs : BX} {kn : List Int} (h : secOk bs kn = true) (x : Int) : fin bs kn 0 x = decide (x ∈ derL bs kn) := by
  rw [Bool.eq_iff_iff, fin_der, decide_eq_true_eq, derL_mem]
  exact ⟨fun d => ⟨h, d⟩, fun d => d.2⟩
theorem derL_len (bs : BX) (kn : List Int) : (derL bs kn).length ≤ 20 := by
  unfold derL; split
  · exact setL_len _
  · simp
theorem derL_yes {bs : BX} {kn : List Int} (h : secOk bs kn = true) : derL bs kn = lstA (fun a => fin bs kn 0 a) 20 := by
  unfold derL; rw [if_pos h]; rfl
theorem derL_none {bs : BX} {kn : List Int} (h : secOk bs kn = false) : derL bs kn = [] := by
  unfold derL; rw [h]; rfl


set_option maxHeartbeats 2000000 in
theorem list_c (s : Nat) (h : AS) (w : World) (r : Rep s h) :
    Calls Try.prog 42 #[.int .i64 (s : Int)] w (GotI w (lstA h 20)) := by
  obtain ⟨i0, hi0, hz0, hs0, hy0⟩ := info_parts infoIn
  have HI := Lib.hid hi0
  have HZ := Lib.hid hz0
  have HZ1 := Lib.hid hs0
  have HY := Lib.hid hy0
  clear hi0 hz0 hs0 hy0
  have HR := Lib.hid r
  clear r
  go_enter Try.func42, Try.ntmps42
  go_wp2_with fail
  go_loopw [3, 4] (fun v i wr => ∃ k : Nat, k ≤ 20 ∧ i = .int .i64 ((k : Int) + 1) ∧ Below w.heap.size w wr ∧ wr.ownsRow w.heap.size 3 1 v (lstA h k).length (ints (lstA h k))) (fun _ i _ => 22 - (intOf i).toNat)
  case atStart => exact ⟨0, by omega, rfl, Below.refl _ _, own_nil _ _⟩
  case round =>
    obtain ⟨k, hk, rfl, hb, own⟩ := hrel
    by_cases hlt : k < 20
    · have hki : (k : Int) + 1 ≤ 20 := by omega
      have HC := Lib.hid (has_c s h ((k : Int) + 1) wr HR.out)
      cases hh : h ((k : Int) + 1)
      · have HK := Lib.hid (lstA_no hh)
        rw [hh] at HC
        clear hh
        go_wp2_with fail
        refine HC.out.mono ?_
        rintro e w' ⟨rfl, rfl⟩
        go_wp2_with fail
        go_roundw
        case rel => exact ⟨k + 1, by omega, by go_num, hb, by rw [HK.out]; exact own⟩
        case measure => simp [intOf]; omega
      · have HK := Lib.hid (lstA_yes hh)
        rw [hh] at HC
        clear hh
        go_wp2_with fail
        refine HC.out.mono ?_
        rintro e w' ⟨rfl, rfl⟩
        have own1 := own.alloc (Obj.cells #[.int .i64 ((k : Int) + 1)] 3)
        have N1 := Blk.new wr #[.int .i64 ((k : Int) + 1)] 3
        have hb1 := bpush hb (Obj.cells #[.int .i64 ((k : Int) + 1)] 3)
        have hlen := lstA_len h k
        have hsz := hb.size
        clear own
        go_wp2_with (at_builtin; refine wpList_append_lies _ rfl _ _ _ rfl w.heap.size _ i0 _ 1 8 Try.underlying24 HI.out HZ.out HZ1.out HY.out rfl (by omega) _ _ _ rfl own1 ⟨wr.heap.size, 0, none⟩ 1 1 [.int .i64 ((k : Int) + 1)] rfl rfl (World.news_of_block N1) (by simp [Value.oneCell']) (by omega) (by unfold maxLen; omega) (by omega) (by simp; omega) (wr.heap.size + 1) (by simp) ?_; intro g2 cap2 w2 own3 hgrow hat hg2)
        have hb3 := bchg hb1 (chg_grown own1 hgrow) (Nat.le_refl _)
        rw [← ints_snoc] at own3
        have own4 : w2.ownsRow w.heap.size 3 1 (.slice (some ⟨g2, 0, none⟩) ((lstA h k).length + 1) cap2) (lstA h (k + 1)).length (ints (lstA h (k + 1))) := by rw [HK.out, List.length_append]; exact own3
        go_roundw
        case rel => exact ⟨k + 1, by omega, by go_num, hb3, own4⟩
        case measure => simp [intOf]; omega
    · obtain rfl : k = 20 := by omega
      obtain ⟨av, cv, rfl⟩ := row_form own
      go_wp2_with fail
      go_ret
      exact ⟨av, cv, rfl, hb, own⟩

theorem derL_c (a ak : Option Addr) (n cap nk ck : Nat) (bs : BX) (kn : List Int) (w : World) (HB : Ns 1 inG w w.heap.size a n bs) (hl : kn.length = nk) (S : Sl 1 w w.heap.size ak nk (inG kn)) :
    Calls Try.prog 15 #[.slice a n cap, .slice ak nk ck] w (GotI w (derL bs kn)) := by
  have HC := Lib.hid (sec_c a ak n cap nk ck bs kn w HB hl S)
  have HN := Lib.hid HB
  have HS := Lib.hid S
  clear HB S
  cases hv : secOk bs kn
  · rw [hv] at HC
    rw [derL_none hv]
    clear hv
    go_enter Try.func15, Try.ntmps15
    go_wp2_with fail
    refine HC.out.mono ?_
    rintro e w1 ⟨rfl, hb1⟩
    go_wp2_with fail
    go_ret
    exact ⟨none, 0, rfl, hb1, own_nil _ _⟩
  · rw [hv] at HC
    have HV := Lib.hid hv
    rw [derL_yes hv]
    clear hv
    go_enter Try.func15, Try.ntmps15
    go_wp2_with fail
    refine HC.out.mono ?_
    rintro e w1 ⟨rfl, hb1⟩
    go_wp2_with fail
    refine (derive_c a ak n cap nk ck bs kn 0 w1 ((HN.out.below hb1).mono hb1.size) hl ((HS.out.below hb1).mono hb1.size) HV.out).mono ?_
    rintro e w2 ⟨s, hr, rfl, hb2⟩
    have HL := Lib.hid (list_c s _ w2 hr)
    clear hr
    go_wp2_with fail
    refine HL.out.mono ?_
    rintro e w3 ⟨a3, c3, rfl, hb3, own3⟩
    go_wp2_with fail
    go_ret
    exact ⟨a3, c3, rfl, bstep (bstep hb1 hb2) hb3, row_mono own3 (Nat.le_trans hb1.size hb2.size)⟩

set_option maxHeartbeats 2000000 in
theorem derS_c (a ak : Option Addr) (n cap nk ck : Nat) (bs : BX) (kn : List Int) (w : World) (HB : Ns 1 inG w w.heap.size a n bs) (hl : kn.length = nk) (S : Sl 1 w w.heap.size ak nk (inG kn)) :
    Calls Try.prog 16 #[.slice a n cap, .slice ak nk ck] w (GotI w (derL bs kn)) := by
  obtain ⟨i0, hi0, hz0, hs0, hy0⟩ := info_parts infoIn
  have HI := Lib.hid hi0
  have HZ := Lib.hid hz0
  have HZ1 := Lib.hid hs0
  have HY := Lib.hid hy0
  clear hi0 hz0 hs0 hy0
  have E0 := Blk.new w #[] 3
  have hb0 := bpush (Below.refl w.heap.size w) (Obj.cells #[] 3)
  have HC := Lib.hid (bvalid_spec a n cap bs (w.alloc (Obj.cells #[] 3)) ((HB.below hb0).mono hb0.size))
  have HK := Lib.hid (known_c ak nk ck kn (w.alloc (Obj.cells #[] 3)) hl ((S.below hb0).mono hb0.size))
  have HD := Lib.hid (fun hv => lderive_c a ak n cap nk ck bs kn 0 (w.alloc (Obj.cells #[] 3)) ((HB.below hb0).mono hb0.size) hl ((S.below hb0).mono hb0.size) hv)
  have hsec : secOk bs kn = (boxesOk bs && knownOk kn) := rfl
  clear HB S
  have own0 := own_emp E0 (Nat.le_refl _)
  cases h1 : boxesOk bs
  · rw [h1] at HC hsec
    rw [derL_none (by rw [hsec]; rfl)]
    clear h1 hsec
    go_enter Try.func16, Try.ntmps16
    go_wp2_with fail
    refine HC.out.mono ?_
    rintro e w1 ⟨rfl, rfl⟩
    go_wp2_with fail
    go_ret
    exact ⟨_, _, rfl, hb0, own0⟩
  cases h2 : knownOk kn
  · rw [h1] at HC hsec
    rw [h2] at HK hsec
    rw [derL_none (by rw [hsec]; rfl)]
    clear h1 hsec h2
    go_enter Try.func16, Try.ntmps16
    go_wp2_with fail
    refine HC.out.mono ?_
    rintro e w1 ⟨rfl, rfl⟩
    go_wp2_with fail
    refine HK.out.mono ?_
    rintro e w1 ⟨rfl, rfl⟩
    go_wp2_with fail
    go_ret
    exact ⟨_, _, rfl, hb0, own0⟩
  rw [h1] at HC hsec
  rw [h2] at HK hsec
  have HV := Lib.hid (hsec.trans rfl)
  rw [derL_yes (hsec.trans rfl)]
  clear h1 hsec h2
  obtain ⟨f, hf⟩ : ∃ f, fin bs kn 0 = f := ⟨_, rfl⟩
  have HD' := Lib.hid (HD.out HV.out)
  rw [hf] at HD'
  rw [show (fun a => fin bs kn 0 a) = f from hf]
  clear hf HD
  go_enter Try.func16, Try.ntmps16
  go_wp2_with fail
  refine HC.out.mono ?_
  rintro e w1 ⟨rfl, rfl⟩
  go_wp2_with fail
  refine HK.out.mono ?_
  rintro e w1 ⟨rfl, rfl⟩
  go_wp2_with fail
  refine HD'.out.mono ?_
  rintro e w2 ⟨g, rfl, hg, hb2, hB⟩
  simp only [World.size_alloc] at hg
  have own2 := row_below own0 hb2
  have hbb := bstep hb0 hb2
  have hqg : g < w2.heap.size := hB.lt
  clear own0 hb0 hb2 E0
  go_wp2_with fail
  go_loopw [5, 7] (fun v i wr => ∃ k : Nat, k ≤ 20 ∧ i = .int .i64 ((k : Int) + 1) ∧ Below w.heap.size w wr ∧ Bo wr g f ∧ v.ownBlock ≠ some g ∧ wr.ownsRow w.heap.size 3 1 v (lstA f k).length (ints (lstA f k))) (fun _ i _ => 22 - (intOf i).toNat)
  case atStart => exact ⟨0, by omega, rfl, hbb, hB, by simp [Value.ownBlock]; omega, own2⟩
  case round =>
    clear hbb hB own2
    obtain ⟨k, hk, rfl, hb, hB, hne, own⟩ := hrel
    by_cases hlt : k < 20
    · have hki : (k : Int) + 1 ≤ 20 := by omega
      have hki1 : (k : Int) + 1 < 21 := by omega
      have hkt : ((k : Int) + 1).toNat = k + 1 := by omega
      have y := hB.cell (i := k + 1) (by omega)
      have y' : wr.cell? ⟨g, k + 1, none⟩ = some (.bool (f ((k : Int) + 1))) := y
      have qg := hB.lt
      cases hh : f ((k : Int) + 1)
      · have HK := Lib.hid (lstA_no hh)
        rw [hh] at y'
        have HBB := Lib.hid hB
        have HNE := Lib.hid hne
        clear hh y hB hne
        go_wp2_with fail
        go_roundw
        case rel => exact ⟨k + 1, by omega, by go_num, hb, HBB.out, HNE.out, by rw [HK.out]; exact own⟩
        case measure => simp [intOf]; omega
      · have HK := Lib.hid (lstA_yes hh)
        rw [hh] at y'
        have HBB := Lib.hid hB
        have HNE := Lib.hid hne
        clear hh y hB hne
        have own1 := own.alloc (Obj.cells #[.int .i64 ((k : Int) + 1)] 3)
        have N1 := Blk.new wr #[.int .i64 ((k : Int) + 1)] 3
        have hb1 := bpush hb (Obj.cells #[.int .i64 ((k : Int) + 1)] 3)
        have hlen := lstA_len f k
        have hsz := hb.size
        clear own
        go_wp2_with (at_builtin; refine wpList_append_lies _ rfl _ _ _ rfl w.heap.size _ i0 _ 1 8 Try.underlying24 HI.out HZ.out HZ1.out HY.out rfl (by omega) _ _ _ rfl own1 ⟨wr.heap.size, 0, none⟩ 1 1 [.int .i64 ((k : Int) + 1)] rfl rfl (World.news_of_block N1) (by simp [Value.oneCell']) (by omega) (by unfold maxLen; omega) (by omega) (by simp; omega) (wr.heap.size + 1) (by simp) ?_; intro g2 cap2 w2 own3 hgrow hat hg2)
        have hb3 := bchg hb1 (chg_grown own1 hgrow) (Nat.le_refl _)
        rw [← ints_snoc] at own3
        have own4 : w2.ownsRow w.heap.size 3 1 (.slice (some ⟨g2, 0, none⟩) ((lstA f k).length + 1) cap2) (lstA f (k + 1)).length (ints (lstA f (k + 1))) := by rw [HK.out, List.length_append]; exact own3
        obtain ⟨cs, hcs, hcz, hca⟩ := HBB.out
        have hB5 : Bo w2 g f := ⟨cs, (hcs.alloc (Obj.cells #[.int .i64 ((k : Int) + 1)] 3)).grown hgrow HNE.out, hcz, hca⟩
        have hne5 : (Value.slice (some ⟨g2, 0, none⟩) ((lstA f k).length + 1) cap2).ownBlock ≠ some g := by
          simp only [Value.ownBlock, ne_eq, Option.some.injEq]
          rcases hat with h | h
          · intro e; rw [e] at h; exact HNE.out h
          · omega
        go_roundw
        case rel => exact ⟨k + 1, by omega, by go_num, hb3, hB5, hne5, own4⟩
        case measure => simp [intOf]; omega
    · obtain rfl : k = 20 := by omega
      obtain ⟨av, cv, rfl⟩ := row_form own
      clear hne
      go_wp2_with fail
      go_ret
      exact ⟨av, cv, rfl, hb, own⟩

theorem drv_impl (a ak : Option Addr) (n cap nk ck : Nat) (bs : BX) (kn : List Int) (x : Int) (w : World) (HB : Ns 1 inG w w.heap.size a n bs) (hl : kn.length = nk) (S : Sl 1 w w.heap.size ak nk (inG kn)) :
    Calls Try.prog 24 #[.slice a n cap, .slice ak nk ck, .int .i64 x] w fun e w' => e = .returned (.bool (drvOk bs kn x)) ∧ Below w.heap.size w w' := by
  have HC := Lib.hid (sec_c a ak n cap nk ck bs kn w HB hl S)
  have HN := Lib.hid HB
  have HS := Lib.hid S
  have E : RowKit.Hid (drvOk bs kn x = (secOk bs kn && fin bs kn 0 x)) := Lib.hid rfl
  clear HB S
  cases hv : secOk bs kn
  · rw [hv] at HC E
    clear hv
    go_enter Try.func24, Try.ntmps24
    go_wp2_with fail
    refine HC.out.mono ?_
    rintro e w1 ⟨rfl, hb1⟩
    go_wp2_with fail
    go_ret
    rw [E.out]
    exact ⟨rfl, hb1⟩
  · rw [hv] at HC E
    have HV := Lib.hid hv
    clear hv
    go_enter Try.func24, Try.ntmps24
    go_wp2_with fail
    refine HC.out.mono ?_
    rintro e w1 ⟨rfl, hb1⟩
    go_wp2_with fail
    refine (derive_c a ak n cap nk ck bs kn 0 w1 ((HN.out.below hb1).mono hb1.size) hl ((HS.out.below hb1).mono hb1.size) HV.out).mono ?_
    rintro e w2 ⟨s, hr, rfl, hb2⟩
    have HH := Lib.hid (has_c s _ x w2 hr)
    clear hr
    go_wp2_with fail
    refine HH.out.mono ?_
    rintro e w3 ⟨rfl, rfl⟩
    obtain ⟨b, hbq⟩ : ∃ b, fin bs kn 0 x = b := ⟨_, rfl⟩
    rw [hbq] at E ⊢
    clear hbq HH
    cases b
    all_goals
      go_wp2_with fail
      go_ret
      rw [E.out]
      exact ⟨rfl, bstep hb1 hb2⟩

theorem drv_spec (a ak : Option Addr) (n cap nk ck : Nat) (bs : BX) (kn : List Int) (x : Int) (w : World) (HB : Ns 1 inG w w.heap.size a n bs) (hl : kn.length = nk) (S : Sl 1 w w.heap.size ak nk (inG kn)) :
    Calls Try.prog 21 #[.slice a n cap, .slice ak nk ck, .int .i64 x] w fun e w' => e = .returned (.bool (drvOk bs kn x)) ∧ Below w.heap.size w w' := by
  have HC := Lib.hid (derS_c a ak n cap nk ck bs kn w HB hl S)
  have E := Lib.hid (drvOk_mem (bs := bs) (kn := kn) (a := x))
  have hlen := derL_len bs kn
  clear HB S
  go_enter Try.func21, Try.ntmps21
  go_wp2_with fail
  refine HC.out.mono ?_
  rintro e w1 ⟨a1, c1, rfl, hb1, own1⟩
  have HH := Lib.hid (hasS_c a1 _ c1 (derL bs kn) x w1 rfl (isl_row own1 (by omega)).sl)
  clear own1
  go_wp2_with fail
  refine HH.out.mono ?_
  rintro e w2 ⟨rfl, rfl⟩
  go_wp2_with fail
  go_ret
  rw [E.out]
  exact ⟨rfl, hb1⟩

set_option maxHeartbeats 2000000 in
theorem opn_impl (a ak : Option Addr) (n cap nk ck : Nat) (bs : BX) (kn : List Int) (w : World) (HB : Ns 1 inG w w.heap.size a n bs) (hl : kn.length = nk) (S : Sl 1 w w.heap.size ak nk (inG kn)) :
    Calls Try.prog 35 #[.slice a n cap, .slice ak nk ck] w (GotI w (openI bs kn)) := by
  obtain ⟨i0, hi0, hz0, hs0, hy0⟩ := info_parts infoIn
  have HI := Lib.hid hi0
  have HZ := Lib.hid hz0
  have HZ1 := Lib.hid hs0
  have HY := Lib.hid hy0
  clear hi0 hz0 hs0 hy0
  have hnl := HB.length
  have hnn := HB.len
  have HC := Lib.hid (sec_c a ak n cap nk ck bs kn w HB hl S)
  have HN := Lib.hid HB
  have HS := Lib.hid S
  clear HB S
  cases hv : secOk bs kn
  · rw [hv] at HC
    rw [openI_none hv]
    clear hv
    go_enter Try.func35, Try.ntmps35
    go_wp2_with fail
    refine HC.out.mono ?_
    rintro e w1 ⟨rfl, hb1⟩
    go_wp2_with fail
    go_ret
    exact ⟨none, 0, rfl, hb1, own_nil _ _⟩
  rw [hv] at HC
  have hn10 := (sec_len hv).1
  have HV := Lib.hid hv
  obtain ⟨q, hq⟩ : ∃ q : Nat → Bool, q = fun i => decide ((bs.getD i (0, [])).1 ∈ derL bs kn) := ⟨_, rfl⟩
  have HQ : RowKit.Hid (∀ i, q i = fin bs kn 0 (bs.getD i (0, [])).1) := Lib.hid (fun i => by rw [hq, fin_mem HV.out])
  have EO : openI bs kn = lstB q n := by unfold openI; rw [hq, hnl]
  rw [EO]
  clear hv hq EO
  go_enter Try.func35, Try.ntmps35
  go_wp2_with fail
  refine HC.out.mono ?_
  rintro e w1 ⟨rfl, hb1⟩
  go_wp2_with fail
  refine (derive_c a ak n cap nk ck bs kn 0 w1 ((HN.out.below hb1).mono hb1.size) hl ((HS.out.below hb1).mono hb1.size) HV.out).mono ?_
  rintro e w2 ⟨s, hr, rfl, hb2⟩
  have HR := Lib.hid hr
  have hbb := bstep hb1 hb2
  clear hr hb1 hb2
  go_wp2_with fail
  go_loopw [6, 18] (fun v i wr => ∃ k : Nat, k ≤ n ∧ i = .int .i64 k ∧ Below w.heap.size w wr ∧ wr.ownsRow w.heap.size 3 1 v (lstB q k).length (ints (lstB q k))) (fun _ i _ => n - (intOf i).toNat)
  case atStart => exact ⟨0, by omega, rfl, hbb, own_nil _ _⟩
  case round =>
    clear hbb
    obtain ⟨k, hk, rfl, hb0, own0⟩ := hrel
    by_cases hlt : k < n
    · have hki : (k : Int) < (n : Int) := by omega
      obtain ⟨b, off, a', c', rfl, hB, x0, x1, hc', hin⟩ := (HN.out.below hb0).at hlt
      have hqk := HQ.out k
      obtain ⟨bx, hbx⟩ : ∃ p, bs.getD k (0, []) = p := ⟨_, rfl⟩
      rw [hbx] at x0 x1 hc' hqk
      have qb := World.block_lt_of_cell? _ _ x0
      obtain ⟨W, hW⟩ : ∃ x, x = wr.alloc (Obj.cells #[.int .i64 bx.1, .slice a' bx.2.length c'] 33) := ⟨_, rfl⟩
      have K1 := Blk.new wr #[.int .i64 bx.1, .slice a' bx.2.length c'] 33
      have hb := bpush hb0 (Obj.cells #[.int .i64 bx.1, .slice a' bx.2.length c'] 33)
      have own := own0.alloc (Obj.cells #[.int .i64 bx.1, .slice a' bx.2.length c'] 33)
      have HH := Lib.hid (has_c s _ bx.1 (wr.alloc (Obj.cells #[.int .i64 bx.1, .slice a' bx.2.length c'] 33)) HR.out)
      rw [← hqk] at HH
      clear hbx hin own0 hb0 hqk
      cases hh : q k
      · have HK := Lib.hid (lstB_no hh)
        rw [hh] at HH
        clear hh
        go_wp2_with fail
        refine HH.out.mono ?_
        rintro e w' ⟨rfl, rfl⟩
        rw [← hW] at K1 hb own ⊢
        clear hW x0 x1
        go_wp2_with fail
        go_roundw
        case rel => exact ⟨k + 1, by omega, by go_num, hb, by rw [HK.out]; exact own⟩
        case measure => simp [intOf]; omega
      · have HK := Lib.hid (lstB_yes hh)
        rw [hh] at HH
        clear hh
        go_wp2_with fail
        refine HH.out.mono ?_
        rintro e w' ⟨rfl, rfl⟩
        rw [← hW] at K1 hb own ⊢
        clear hW x0 x1
        rename_i wr0
        obtain ⟨wr, rfl⟩ : ∃ x, x = W := ⟨_, rfl⟩
        have own1 := own.alloc (Obj.cells #[.int .i64 ((k : Int))] 3)
        have N1 := Blk.new wr #[.int .i64 ((k : Int))] 3
        have hb1 := bpush hb (Obj.cells #[.int .i64 ((k : Int))] 3)
        have hlen := lstB_len q k
        have hsz := hb.size
        clear own
        go_wp2_with (at_builtin; refine wpList_append_lies _ rfl _ _ _ rfl w.heap.size _ i0 _ 1 8 Try.underlying24 HI.out HZ.out HZ1.out HY.out rfl (by omega) _ _ _ rfl own1 ⟨wr.heap.size, 0, none⟩ 1 1 [.int .i64 ((k : Int))] rfl rfl (World.news_of_block N1) (by simp [Value.oneCell']) (by omega) (by unfold maxLen; omega) (by omega) (by simp; omega) (wr.heap.size + 1) (by simp) ?_; intro g2 cap2 w2 own3 hgrow hat hg2)
        have hb3 := bchg hb1 (chg_grown own1 hgrow) (Nat.le_refl _)
        rw [← ints_snoc] at own3
        have own4 : w2.ownsRow w.heap.size 3 1 (.slice (some ⟨g2, 0, none⟩) ((lstB q k).length + 1) cap2) (lstB q (k + 1)).length (ints (lstB q (k + 1))) := by rw [HK.out, List.length_append]; exact own3
        go_roundw
        case rel => exact ⟨k + 1, by omega, by go_num, hb3, own4⟩
        case measure => simp [intOf]; omega
    · obtain rfl : k = n := by omega
      obtain ⟨av, cv, rfl⟩ := row_form own0
      go_wp2_with fail
      go_ret
      exact ⟨av, cv, rfl, hb0, own0⟩

set_option maxHeartbeats 2000000 in
theorem opn_spec (a ak : Option Addr) (n cap nk ck : Nat) (bs : BX) (kn : List Int) (w : World) (HB : Ns 1 inG w w.heap.size a n bs) (hl : kn.length = nk) (S : Sl 1 w w.heap.size ak nk (inG kn)) :
    Calls Try.prog 36 #[.slice a n cap, .slice ak nk ck] w (GotI w (openI bs kn)) := by
  obtain ⟨i0, hi0, hz0, hs0, hy0⟩ := info_parts infoIn
  have HI := Lib.hid hi0
  have HZ := Lib.hid hz0
  have HZ1 := Lib.hid hs0
  have HY := Lib.hid hy0
  clear hi0 hz0 hs0 hy0
  have hnl := HB.length
  have hnn := HB.len
  have E0 := Blk.new w #[] 3
  have hb0 := bpush (Below.refl w.heap.size w) (Obj.cells #[] 3)
  have own0 := own_emp E0 (Nat.le_refl _)
  have HC := Lib.hid (derS_c a ak n cap nk ck bs kn (w.alloc (Obj.cells #[] 3)) ((HB.below hb0).mono hb0.size) hl ((S.below hb0).mono hb0.size))
  have HN := Lib.hid HB
  have hdl := derL_len bs kn
  have EO : openI bs kn = lstB (fun i => decide ((bs.getD i (0, [])).1 ∈ derL bs kn)) n := by unfold openI; rw [hnl]
  obtain ⟨D, hD⟩ : ∃ D, derL bs kn = D := ⟨_, rfl⟩
  rw [EO]
  rw [hD] at HC hdl ⊢
  obtain ⟨q, hq⟩ : ∃ q : Nat → Bool, (fun i => decide ((bs.getD i (0, [])).1 ∈ D)) = q := ⟨_, rfl⟩
  have HQ : RowKit.Hid (∀ i, q i = decide ((bs.getD i (0, [])).1 ∈ D)) := Lib.hid (fun i => by rw [← hq])
  have HN10 : RowKit.Hid (∀ i, q i = true → n ≤ 10) := Lib.hid (fun i h => by
    rw [← hq, decide_eq_true_eq, ← hD] at h
    have := (sec_len (derL_mem.1 h).1).1
    omega)
  rw [hq]
  clear HB S hD hq EO E0
  go_enter Try.func36, Try.ntmps36
  go_wp2_with fail
  refine HC.out.mono ?_
  rintro e w2 ⟨aD, cD, rfl, hb2, ownD⟩
  have own2 := row_below own0 hb2
  have hbb := bstep hb0 hb2
  have hap : ∀ g, (Value.slice aD D.length cD).ownBlock = some g → (Value.slice (some ⟨w.heap.size, 0, none⟩) (0 : Nat) 0).ownBlock ≠ some g := by
    intro g h h'
    simp only [Value.ownBlock, Option.some.injEq] at h'
    have := (ownD.lt _ h).1
    simp at this
    omega
  have ownD := row_mono ownD (B' := w.heap.size) (by simp)
  clear own0 hb0 hb2
  go_wp2_with fail
  go_loopw [5, 7] (fun v i wr => ∃ k : Nat, k ≤ n ∧ i = .int .i64 k ∧ Below w.heap.size w wr ∧ wr.ownsRow w.heap.size 3 1 (.slice aD D.length cD) D.length (ints D) ∧ (∀ g, (Value.slice aD D.length cD).ownBlock = some g → v.ownBlock ≠ some g) ∧ wr.ownsRow w.heap.size 3 1 v (lstB q k).length (ints (lstB q k))) (fun _ i _ => n - (intOf i).toNat)
  case atStart => exact ⟨0, by omega, rfl, hbb, ownD, hap, own2⟩
  case round =>
    clear hbb ownD own2 hap
    obtain ⟨k, hk, rfl, hb, ownD, hap, own⟩ := hrel
    by_cases hlt : k < n
    · have hki : (k : Int) < (n : Int) := by omega
      obtain ⟨b, off, a', c', rfl, hB, x0, x1, hc', hin⟩ := (HN.out.below hb).at hlt
      have hqk := HQ.out k
      obtain ⟨bx, hbx⟩ : ∃ p, bs.getD k (0, []) = p := ⟨_, rfl⟩
      rw [hbx] at x0 x1 hc' hqk
      have HH := Lib.hid (hasS_c aD _ cD D bx.1 wr rfl (isl_row ownD (by omega)).sl)
      rw [← hqk] at HH
      have OD := Lib.hid ownD
      have HAP := Lib.hid hap
      clear hbx hin hqk x1 ownD hap
      cases hh : q k
      · have HK := Lib.hid (lstB_no hh)
        rw [hh] at HH
        clear hh
        go_wp2_with fail
        refine HH.out.mono ?_
        rintro e w' ⟨rfl, rfl⟩
        go_wp2_with fail
        go_roundw
        case rel => exact ⟨k + 1, by omega, by go_num, hb, OD.out, HAP.out, by rw [HK.out]; exact own⟩
        case measure => simp [intOf]; omega
      · have HK := Lib.hid (lstB_yes hh)
        have hn10 := HN10.out k hh
        rw [hh] at HH
        clear hh
        go_wp2_with fail
        refine HH.out.mono ?_
        rintro e w' ⟨rfl, rfl⟩
        have own1 := own.alloc (Obj.cells #[.int .i64 ((k : Int))] 3)
        have N1 := Blk.new wr #[.int .i64 ((k : Int))] 3
        have hb1 := bpush hb (Obj.cells #[.int .i64 ((k : Int))] 3)
        have hlen := lstB_len q k
        have hsz := hb.size
        clear own
        go_wp2_with (at_builtin; refine wpList_append_lies _ rfl _ _ _ rfl w.heap.size _ i0 _ 1 8 Try.underlying24 HI.out HZ.out HZ1.out HY.out rfl (by omega) _ _ _ rfl own1 ⟨wr.heap.size, 0, none⟩ 1 1 [.int .i64 ((k : Int))] rfl rfl (World.news_of_block N1) (by simp [Value.oneCell']) (by omega) (by unfold maxLen; omega) (by omega) (by simp; omega) (wr.heap.size + 1) (by simp) ?_; intro g2 cap2 w2 own3 hgrow hat hg2)
        have hb3 := bchg hb1 (chg_grown own1 hgrow) (Nat.le_refl _)
        rw [← ints_snoc] at own3
        have own4 : w2.ownsRow w.heap.size 3 1 (.slice (some ⟨g2, 0, none⟩) ((lstB q k).length + 1) cap2) (lstB q (k + 1)).length (ints (lstB q (k + 1))) := by rw [HK.out, List.length_append]; exact own3
        have OD5 := row_grown (OD.out.alloc (Obj.cells #[.int .i64 (k : Int)] 3)) hgrow HAP.out
        have AP5 : ∀ g, (Value.slice aD D.length cD).ownBlock = some g → (Value.slice (some ⟨g2, 0, none⟩) ((lstB q k).length + 1) cap2).ownBlock ≠ some g := by
          intro g h
          have hg := (OD.out.lt _ h).2
          simp only [Value.ownBlock, ne_eq, Option.some.injEq]
          rintro rfl
          rcases hat with h' | h'
          · exact HAP.out _ h h'
          · omega
        go_roundw
        case rel => exact ⟨k + 1, by omega, by go_num, hb3, OD5, AP5, own4⟩
        case measure => simp [intOf]; omega
    · obtain rfl : k = n := by omega
      obtain ⟨av, cv, rfl⟩ := row_form own
      clear hap
      go_wp2_with fail
      go_ret
      exact ⟨av, cv, rfl, hb, own⟩

theorem guardL_none {bs : BX} {kn : List Int} {x : Int} (h : drvOk bs kn x = false) : guardL bs kn x = [] := by
  unfold guardL; rw [h]; rfl
theorem guardL_yes {bs : BX} {kn : List Int} {x : Int} (h : drvOk bs kn x = true) : guardL bs kn x = lstA (fun k => !fin bs kn k x) 20 := by
  unfold guardL; rw [if_pos h]; rfl
theorem drv_t {bs : BX} {kn : List Int} {x : Int} (h : drvOk bs kn x = true) : secOk bs kn = true ∧ 1 ≤ x ∧ x ≤ 20 := by
  unfold drvOk at h
  simp only [Bool.and_eq_true] at h
  exact ⟨h.1, der_atom h.1 ((fin_der _ _ _ _).1 h.2)⟩

set_option maxHeartbeats 2000000 in
theorem grd_impl (a ak : Option Addr) (n cap nk ck : Nat) (bs : BX) (kn : List Int) (x : Int) (w : World) (HB : Ns 1 inG w w.heap.size a n bs) (hl : kn.length = nk) (S : Sl 1 w w.heap.size ak nk (inG kn)) :
    Calls Try.prog 29 #[.slice a n cap, .slice ak nk ck, .int .i64 x] w (GotI w (guardL bs kn x)) := by
  obtain ⟨i0, hi0, hz0, hs0, hy0⟩ := info_parts infoIn
  have HI := Lib.hid hi0
  have HZ := Lib.hid hz0
  have HZ1 := Lib.hid hs0
  have HY := Lib.hid hy0
  clear hi0 hz0 hs0 hy0
  have HC := Lib.hid (drv_impl a ak n cap nk ck bs kn x w HB hl S)
  have HN := Lib.hid HB
  have HS := Lib.hid S
  clear HB S
  cases hv : drvOk bs kn x
  · rw [hv] at HC
    rw [guardL_none hv]
    clear hv
    go_enter Try.func29, Try.ntmps29
    go_wp2_with fail
    refine HC.out.mono ?_
    rintro e w1 ⟨rfl, hb1⟩
    go_wp2_with fail
    go_ret
    exact ⟨none, 0, rfl, hb1, own_nil _ _⟩
  rw [hv] at HC
  have HV := Lib.hid (drv_t hv).1
  rw [guardL_yes hv]
  obtain ⟨q, hq⟩ : ∃ q : Int → Bool, (fun k => !fin bs kn k x) = q := ⟨_, rfl⟩
  have HQ : RowKit.Hid (∀ i, q i = !fin bs kn i x) := Lib.hid (fun i => by rw [← hq])
  rw [hq]
  clear hv hq
  go_enter Try.func29, Try.ntmps29
  go_wp2_with fail
  refine HC.out.mono ?_
  rintro e w1 ⟨rfl, hb1⟩
  go_wp2_with fail
  go_loopw [7, 8] (fun v i wr => ∃ k : Nat, k ≤ 20 ∧ i = .int .i64 ((k : Int) + 1) ∧ Below w.heap.size w wr ∧ wr.ownsRow w.heap.size 3 1 v (lstA q k).length (ints (lstA q k))) (fun _ i _ => 22 - (intOf i).toNat)
  case atStart => exact ⟨0, by omega, rfl, hb1, own_nil _ _⟩
  case round =>
    clear hb1
    obtain ⟨k, hk, rfl, hb0, own0⟩ := hrel
    by_cases hlt : k < 20
    · have hki : (k : Int) + 1 ≤ 20 := by omega
      go_wp2_with fail
      refine (derive_c a ak n cap nk ck bs kn ((k : Int) + 1) _ ((HN.out.below hb0).mono hb0.size) hl ((HS.out.below hb0).mono hb0.size) HV.out).mono ?_
      rintro e wr ⟨s, hr, rfl, hb2⟩
      have HH := Lib.hid (has_c s _ x wr hr)
      have hqk := HQ.out ((k : Int) + 1)
      obtain ⟨f, hf⟩ : ∃ f, fin bs kn ((k : Int) + 1) x = f := ⟨_, rfl⟩
      rw [hf] at hqk HH
      have own := row_below own0 hb2
      have hb := bstep hb0 hb2
      clear hf own0 hb0 hb2 hr
      go_wp2_with fail
      refine HH.out.mono ?_
      rintro e w' ⟨rfl, rfl⟩
      cases f
      · have HK := Lib.hid (lstA_yes (f := q) hqk)
        clear hqk
        have own1 := own.alloc (Obj.cells #[.int .i64 ((k : Int) + 1)] 3)
        have N1 := Blk.new wr #[.int .i64 ((k : Int) + 1)] 3
        have hb1 := bpush hb (Obj.cells #[.int .i64 ((k : Int) + 1)] 3)
        have hlen := lstA_len q k
        have hsz := hb.size
        clear own
        go_wp2_with (at_builtin; refine wpList_append_lies _ rfl _ _ _ rfl w.heap.size _ i0 _ 1 8 Try.underlying24 HI.out HZ.out HZ1.out HY.out rfl (by omega) _ _ _ rfl own1 ⟨wr.heap.size, 0, none⟩ 1 1 [.int .i64 ((k : Int) + 1)] rfl rfl (World.news_of_block N1) (by simp [Value.oneCell']) (by omega) (by unfold maxLen; omega) (by omega) (by simp; omega) (wr.heap.size + 1) (by simp) ?_; intro g2 cap2 w2 own3 hgrow hat hg2)
        have hb3 := bchg hb1 (chg_grown own1 hgrow) (Nat.le_refl _)
        rw [← ints_snoc] at own3
        have own4 : w2.ownsRow w.heap.size 3 1 (.slice (some ⟨g2, 0, none⟩) ((lstA q k).length + 1) cap2) (lstA q (k + 1)).length (ints (lstA q (k + 1))) := by rw [HK.out, List.length_append]; exact own3
        go_roundw
        case rel => exact ⟨k + 1, by omega, by go_num, hb3, own4⟩
        case measure => simp [intOf]; omega
      · have HK := Lib.hid (lstA_no (f := q) hqk)
        clear hqk
        go_wp2_with fail
        go_roundw
        case rel => exact ⟨k + 1, by omega, by go_num, hb, by rw [HK.out]; exact own⟩
        case measure => simp [intOf]; omega
    · obtain rfl : k = 20 := by omega
      obtain ⟨av, cv, rfl⟩ := row_form own0
      go_wp2_with fail
      go_ret
      exact ⟨av, cv, rfl, hb0, own0⟩

set_option maxHeartbeats 2000000 in
theorem grd_spec (a ak : Option Addr) (n cap nk ck : Nat) (bs : BX) (kn : List Int) (x : Int) (w : World) (HB : Ns 1 inG w w.heap.size a n bs) (hl : kn.length = nk) (S : Sl 1 w w.heap.size ak nk (inG kn)) :
    Calls Try.prog 30 #[.slice a n cap, .slice ak nk ck, .int .i64 x] w (GotI w (guardL bs kn x)) := by
  obtain ⟨i0, hi0, hz0, hs0, hy0⟩ := info_parts infoIn
  have HI := Lib.hid hi0
  have HZ := Lib.hid hz0
  have HZ1 := Lib.hid hs0
  have HY := Lib.hid hy0
  clear hi0 hz0 hs0 hy0
  have E0 := Blk.new w #[] 3
  have hbe := bpush (Below.refl w.heap.size w) (Obj.cells #[] 3)
  have own00 := own_emp E0 (Nat.le_refl _)
  have HC := Lib.hid (drv_spec a ak n cap nk ck bs kn x (w.alloc (Obj.cells #[] 3)) ((HB.below hbe).mono hbe.size) hl ((S.below hbe).mono hbe.size))
  have HN := Lib.hid HB
  have HS := Lib.hid S
  clear HB S E0
  cases hv : drvOk bs kn x
  · rw [hv] at HC
    rw [guardL_none hv]
    clear hv
    go_enter Try.func30, Try.ntmps30
    go_wp2_with fail
    refine HC.out.mono ?_
    rintro e w1 ⟨rfl, hb1⟩
    go_wp2_with fail
    go_ret
    exact ⟨_, _, rfl, bstep hbe hb1, row_below own00 hb1⟩
  rw [hv] at HC
  have HV := Lib.hid (drv_t hv).1
  obtain ⟨_, hx1, hx2⟩ := drv_t hv
  rw [guardL_yes hv]
  obtain ⟨q, hq⟩ : ∃ q : Int → Bool, (fun k => !fin bs kn k x) = q := ⟨_, rfl⟩
  have HQ : RowKit.Hid (∀ i, q i = !fin bs kn i x) := Lib.hid (fun i => by rw [← hq])
  rw [hq]
  clear hv hq
  obtain ⟨X, rfl⟩ : ∃ X : Nat, x = (X : Int) := ⟨x.toNat, by omega⟩
  have hX : X < 21 := by omega
  have hXi : (X : Int) < 21 := by omega
  go_enter Try.func30, Try.ntmps30
  go_wp2_with fail
  refine HC.out.mono ?_
  rintro e w1 ⟨rfl, hb1⟩
  have hbb := bstep hbe hb1
  have own1 := row_below own00 hb1
  clear hbe own00 hb1
  go_wp2_with fail
  go_loopw [7, 8] (fun v i wr => ∃ k : Nat, k ≤ 20 ∧ i = .int .i64 ((k : Int) + 1) ∧ Below w.heap.size w wr ∧ wr.ownsRow w.heap.size 3 1 v (lstA q k).length (ints (lstA q k))) (fun _ i _ => 22 - (intOf i).toNat)
  case atStart => exact ⟨0, by omega, rfl, hbb, own1⟩
  case round =>
    clear hbb own1
    obtain ⟨k, hk, rfl, hb0, own0⟩ := hrel
    by_cases hlt : k < 20
    · have hki : (k : Int) + 1 ≤ 20 := by omega
      go_wp2_with fail
      refine (lderive_c a ak n cap nk ck bs kn ((k : Int) + 1) _ ((HN.out.below hb0).mono hb0.size) hl ((HS.out.below hb0).mono hb0.size) HV.out).mono ?_
      rintro e wr ⟨g, rfl, hg, hb2, hB⟩
      have hqk := HQ.out ((k : Int) + 1)
      have y := hB.cell hX
      obtain ⟨f, hf⟩ : ∃ f, fin bs kn ((k : Int) + 1) (X : Int) = f := ⟨_, rfl⟩
      rw [hf] at hqk y
      have own := row_below own0 hb2
      have hb := bstep hb0 hb2
      have qg := hB.lt
      clear hf own0 hb0 hb2 hB
      cases f
      · have HK := Lib.hid (lstA_yes (f := q) hqk)
        clear hqk
        have own1 := own.alloc (Obj.cells #[.int .i64 ((k : Int) + 1)] 3)
        have N1 := Blk.new wr #[.int .i64 ((k : Int) + 1)] 3
        have hb1 := bpush hb (Obj.cells #[.int .i64 ((k : Int) + 1)] 3)
        have hlen := lstA_len q k
        have hsz := hb.size
        clear own
        go_wp2_with (at_builtin; refine wpList_append_lies _ rfl _ _ _ rfl w.heap.size _ i0 _ 1 8 Try.underlying24 HI.out HZ.out HZ1.out HY.out rfl (by omega) _ _ _ rfl own1 ⟨wr.heap.size, 0, none⟩ 1 1 [.int .i64 ((k : Int) + 1)] rfl rfl (World.news_of_block N1) (by simp [Value.oneCell']) (by omega) (by unfold maxLen; omega) (by omega) (by simp; omega) (wr.heap.size + 1) (by simp) ?_; intro g2 cap2 w2 own3 hgrow hat hg2)
        have hb3 := bchg hb1 (chg_grown own1 hgrow) (Nat.le_refl _)
        rw [← ints_snoc] at own3
        have own4 : w2.ownsRow w.heap.size 3 1 (.slice (some ⟨g2, 0, none⟩) ((lstA q k).length + 1) cap2) (lstA q (k + 1)).length (ints (lstA q (k + 1))) := by rw [HK.out, List.length_append]; exact own3
        go_roundw
        case rel => exact ⟨k + 1, by omega, by go_num, hb3, own4⟩
        case measure => simp [intOf]; omega
      · have HK := Lib.hid (lstA_no (f := q) hqk)
        clear hqk
        go_wp2_with fail
        go_roundw
        case rel => exact ⟨k + 1, by omega, by go_num, hb, by rw [HK.out]; exact own⟩
        case measure => simp [intOf]; omega
    · obtain rfl : k = 20 := by omega
      obtain ⟨av, cv, rfl⟩ := row_form own0
      go_wp2_with fail
      go_ret
      exact ⟨av, cv, rfl, hb0, own0⟩

end Go.Proofs.Ytdnkopnhpffcdaa
