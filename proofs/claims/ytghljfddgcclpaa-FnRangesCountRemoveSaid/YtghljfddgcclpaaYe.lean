/- Whether ranges hold a number; how many they hold. -/
import Derived.Test.YtghljfddgcclpaaYd
import Derived.Shelf.Abstract
namespace Go.Proofs.Ytghljfddgcclpaa
open Go.RowKit
set_option linter.unusedVariables false

theorem clo_c (n0 : Int) (B : Nat) (r : Int × Int) (W : World) (hB : B < W.heap.size) (hcell : W.cell? ⟨B, 0, none⟩ = some (.int .i64 n0)) :
    Calls Try.prog 25 #[.agg #[.int .i64 r.1, .int .i64 r.2], .pointer (some ⟨B, 0, none⟩)] W fun e w' => e = .returned (.bool (inB n0 r.1 r.2)) ∧ Below W.heap.size W w' := by
  have hne : B ≠ W.heap.size := by omega
  have hb := bpush (Below.refl W.heap.size W) (Obj.cells #[.int .i64 r.1, .int .i64 r.2] 39)
  go_enter Try.func25, Try.ntmps25
  go_wp2_with (go_at_call 26; refine (within_c _ _ _ _).mono ?_; rintro e w' ⟨rfl, rfl⟩)
  go_ret
  exact ⟨rfl, hb⟩

set_option maxHeartbeats 4000000 in
theorem index_c (n0 : Int) (B : Nat) (a : Option Addr) (n cap : Nat) (l : RL) (w : World) (hl : l.length = n) (S : Sl 2 w w.heap.size a n (tkG l)) (hB : B < w.heap.size) (hcell : w.cell? ⟨B, 0, none⟩ = some (.int .i64 n0)) :
    Calls Try.prog 29 #[.slice a n cap, .func (.func 25) #[] #[.pointer (some ⟨B, 0, none⟩)]] w fun e w' => ∃ i : Int, e = .returned (.int .i64 i) ∧ decide (0 ≤ i) = hasR l n0 ∧ Below w.heap.size w w' := by
  have hn := S.len
  have HS := Lib.hid S
  have hb0 := Below.refl w.heap.size w
  have HC := Lib.hid hcell
  obtain ⟨V, hV⟩ : ∃ x, hasR l n0 = x := ⟨_, rfl⟩
  rw [hV]
  have HV := Lib.hid hV
  clear S hV hcell
  have eg : ∀ args w, (callFunc 25 args).run Try.prog w = .ok (.enter 25 args) w := enters_of Try.func25 (by kernel_rfl) rfl
  go_enter Try.func29, Try.ntmps29
  go_wp2_with fail
  go_loopw [5, 8] (fun s i wr => ∃ k : Nat, k ≤ n ∧ i = .int .i64 k ∧ hasR l n0 = hasR (l.drop k) n0 ∧ Below w.heap.size w wr) (fun _ i _ => n - (intOf i).toNat)
  case atStart => exact ⟨0, by omega, rfl, rfl, hb0⟩
  case round =>
    obtain ⟨k, hk, rfl, hc, hbk⟩ := hrel
    have HD := Lib.hid hc
    clear hb0 hc
    by_cases hlt : k < n
    · have hki : (k : Int) < (n : Int) := by omega
      obtain ⟨b, off, rfl, hBb, hcl⟩ := (HS.out.below hbk).at hlt
      have x0 := hcl k hlt 0 (by omega)
      have x1 := hcl k hlt 1 (by omega)
      obtain ⟨r, hr⟩ : ∃ p, l.getD k (0, 0) = p := ⟨_, rfl⟩
      simp only [tkG, Nat.add_zero, hr] at x0 x1
      have hd := drop_at (by omega) hr
      have HX := Lib.hid (clo_c n0 B r wr (Nat.lt_of_lt_of_le hB hbk.size) ((hbk.cell (p := ⟨B, 0, none⟩) hB).trans HC.out))
      have HT := Lib.hid hd
      clear hcl hr hd
      cases hq : inB n0 r.1 r.2
      · have hg : hasR l n0 = hasR (l.drop (k + 1)) n0 := by rw [HD.out, HT.out, hasR_cons, hq]; rfl
        rw [hq] at HX
        have HG := Lib.hid hg
        clear hg hq
        go_wp2_with (go_at_fn 25; refine HX.out.mono ?_; rintro e w' ⟨rfl, hb'⟩)
        go_roundw
        case rel => exact ⟨k + 1, by omega, by go_num, HG.out, bstep hbk hb'⟩
        case measure => simp [intOf]; omega
      · have hV : V = true := by rw [← HV.out, HD.out, HT.out, hasR_cons, hq]; rfl
        rw [hq] at HX
        clear hq
        subst hV
        go_wp2_with (go_at_fn 25; refine HX.out.mono ?_; rintro e w' ⟨rfl, hb'⟩)
        go_ret
        exact ⟨(k : Int), rfl, decide_eq_true (by omega), bstep hbk hb'⟩
    · obtain rfl : k = n := by omega
      have hV : V = false := by rw [← HV.out, HD.out, List.drop_of_length_le (by omega)]; rfl
      subst hV
      go_wp2_with fail
      go_ret
      exact ⟨-1, rfl, rfl, hbk⟩

theorem contains_c (n0 : Int) (B : Nat) (a : Option Addr) (n cap : Nat) (l : RL) (w : World) (hl : l.length = n) (S : Sl 2 w w.heap.size a n (tkG l)) (hB : B < w.heap.size) (hcell : w.cell? ⟨B, 0, none⟩ = some (.int .i64 n0)) :
    Calls Try.prog 24 #[.slice a n cap, .func (.func 25) #[] #[.pointer (some ⟨B, 0, none⟩)]] w fun e w' => e = .returned (.bool (hasR l n0)) ∧ Below w.heap.size w w' := by
  have H := Lib.hid (index_c n0 B a n cap l w hl S hB hcell)
  clear S hcell
  go_enter Try.func24, Try.ntmps24
  go_wp2_with (go_at_call 29; refine H.out.mono ?_; rintro e w' ⟨i, rfl, hi, hb'⟩)
  go_ret
  exact ⟨by rw [← hi]; rfl, hb'⟩

theorem has_c (n0 : Int) (a : Option Addr) (n cap : Nat) (l : RL) (w : World) (hl : l.length = n) (S : Sl 2 w w.heap.size a n (tkG l)) :
    Calls Try.prog 20 #[.slice a n cap, .int .i64 n0] w fun e w' => e = .returned (.bool (hasR l n0)) ∧ Below w.heap.size w w' := by
  have hb := bpush (Below.refl w.heap.size w) (Obj.cells #[.int .i64 n0] 3)
  have N := Blk.new w #[.int .i64 n0] 3
  have H := Lib.hid (contains_c n0 w.heap.size a n cap l (w.alloc (Obj.cells #[.int .i64 n0] 3)) hl ((S.below hb).mono hb.size) N.lt (N.cell 0 rfl))
  clear S N
  go_enter Try.func20, Try.ntmps20
  go_wp2_with (go_at_call 24; refine H.out.mono ?_; rintro e w' ⟨rfl, hb'⟩)
  go_ret
  exact ⟨rfl, bstep hb hb'⟩

theorem rhas_c (n0 : Int) (a : Option Addr) (n cap : Nat) (l : RL) (w : World) (hl : l.length = n) (S : Sl 2 w w.heap.size a n (tkG l)) :
    Calls Try.prog 10 #[.slice a n cap, .int .i64 n0] w fun e w' => e = .returned (.bool (rOk l && hasR l n0)) ∧ Below w.heap.size w w' := by
  have HV := Lib.hid (rvalid_impl a n cap l w hl S)
  cases hok : rOk l
  · rw [hok] at HV
    clear S hok
    go_enter Try.func10, Try.ntmps10
    go_wp2_with (go_at_call 11; refine HV.out.mono ?_; rintro e1 w1 ⟨rfl, hb1⟩)
    go_ret
    exact ⟨rfl, hb1⟩
  · rw [hok] at HV
    have HH := Lib.hid (fun w1 (hb : Below w.heap.size w w1) => has_c n0 a n cap l w1 hl ((S.below hb).mono hb.size))
    clear S hok
    go_enter Try.func10, Try.ntmps10
    go_wp2_with (first | (go_at_call 11; refine HV.out.mono ?_; rintro e1 w1 ⟨rfl, hb1⟩) | (go_at_call 20; refine (HH.out _ hb1).mono ?_; rintro e1 w2 ⟨rfl, hb2⟩))
    go_ret
    exact ⟨rfl, bstep hb1 hb2⟩

theorem cnt_snoc (l : RL) (r : Int × Int) : cnt (l ++ [r]) = cnt l + (r.2 - r.1 + 1) := by rw [cnt_app, cnt_cons]; simp [cnt]
theorem getD_mem {l : RL} {k : Nat} {r : Int × Int} (hk : k < l.length) (hr : l.getD k (0, 0) = r) : r ∈ l := by
  rw [List.getD_eq_getElem?_getD, List.getElem?_eq_getElem hk] at hr
  rw [← hr]
  exact List.getElem_mem _
/-- What RangesCount hands back. -/
def rCnt (l : RL) : Int := if rOk l = true then cnt l else -1
set_option maxHeartbeats 4000000 in
theorem rcount_c (a : Option Addr) (n cap : Nat) (l : RL) (w : World) (hl : l.length = n) (hv : rOk l = true) (S : Sl 2 w w.heap.size a n (tkG l)) :
    Calls Try.prog 12 #[.slice a n cap] w fun e w' => e = .returned (.int .i64 (cnt l)) ∧ Below w.heap.size w w' := by
  have hn := S.len
  have HS := Lib.hid S
  have HV := Lib.hid (rvalid_impl a n cap l w hl S)
  rw [hv] at HV
  obtain ⟨hn16, hch⟩ := rok_t hv
  have HG := Lib.hid (chn_ge hch)
  clear S hv hch
  go_enter Try.func12, Try.ntmps12
  go_wp2_with (go_at_call 11; refine HV.out.mono ?_; rintro e1 w1 ⟨rfl, hb1⟩)
  go_loopw [3, 11] (fun s i wr => ∃ (k : Nat) (c : Int), k ≤ n ∧ i = .int .i64 k ∧ s = .int .i64 c ∧ c = cnt (l.take k) ∧ 0 ≤ c ∧ c ≤ 1000 * k ∧ Below w.heap.size w wr) (fun _ i _ => n - (intOf i).toNat)
  case atStart => exact ⟨0, 0, by omega, rfl, rfl, rfl, by omega, by omega, hb1⟩
  case round =>
    obtain ⟨k, c, hk, rfl, rfl, hc, hc0, hc1, hbk⟩ := hrel
    have HC := Lib.hid hc
    clear hb1 hc
    by_cases hlt : k < n
    · have hki : (k : Int) < (n : Int) := by omega
      obtain ⟨b, off, rfl, hB, hcl⟩ := (HS.out.below hbk).at hlt
      have x0 := hcl k hlt 0 (by omega)
      have x1 := hcl k hlt 1 (by omega)
      obtain ⟨r, hr⟩ : ∃ p, l.getD k (0, 0) = p := ⟨_, rfl⟩
      simp only [tkG, Nat.add_zero, hr] at x0 x1
      obtain ⟨q1, q2, q3⟩ := HG.out r (getD_mem (by omega) hr)
      have hg : c + (r.2 - r.1 + 1) = cnt (l.take (k + 1)) := by rw [take_at (by omega) hr, cnt_snoc, HC.out]
      have HT := Lib.hid hg
      have hb2 := bpush hbk (Obj.cells #[.int .i64 r.1, .int .i64 r.2] 39)
      have e1 : IntKind.i64.wrap (r.2 - r.1) = r.2 - r.1 := IntWalk.i64_in _ (by omega)
      have e2 : IntKind.i64.wrap (r.2 - r.1 + 1) = r.2 - r.1 + 1 := IntWalk.i64_in _ (by omega)
      have e3 : IntKind.i64.wrap (c + (r.2 - r.1 + 1)) = c + (r.2 - r.1 + 1) := IntWalk.i64_in _ (by omega)
      clear hcl hr hg
      go_wp2_with fail
      go_roundw
      case rel => exact ⟨k + 1, c + (r.2 - r.1 + 1), by omega, by go_num, rfl, HT.out, by omega, by omega, hb2⟩
      case measure => simp [intOf]; omega
    · obtain rfl : k = n := by omega
      have he : c = cnt l := by rw [HC.out, List.take_of_length_le (by omega)]
      go_wp2_with fail
      go_ret
      exact ⟨by rw [he]; rfl, hbk⟩

end Go.Proofs.Ytghljfddgcclpaa
