/- Servers marked; marks that held. -/
import Derived.Test.YtjlaikmilcgmhaaUb
namespace Go.Proofs.Ytjlaikmilcgmhaa
open Go.RowKit
set_option linter.unusedVariables false

def offS (bs : SV) (i : Nat) : Nat := ((bs.take i).map fun t => 1 + 2 * t.2.length).sum
theorem offS_succ {bs : SV} {k : Nat} (hk : k < bs.length) : offS bs (k + 1) = offS bs k + (1 + 2 * (bs.getD k (0, [])).2.length) := by
  unfold offS; rw [take_snoc (d := (0, [])) hk]; simp
theorem offS_le {bs : SV} {i n : Nat} (h : i ≤ n) : offS bs i ≤ offS bs n := by
  induction n with
  | zero => obtain rfl : i = 0 := by omega
            exact Nat.le_refl _
  | succ n ih =>
    by_cases e : i = n + 1
    · subst e; exact Nat.le_refl _
    · have := ih (by omega)
      by_cases hn : n < bs.length
      · rw [offS_succ hn]; omega
      · have : offS bs (n + 1) = offS bs n := by unfold offS; rw [List.take_of_length_le (by omega), List.take_of_length_le (by omega)]
        omega
theorem offS_tot (bs : SV) : offS bs bs.length ≤ 2 * totS bs := by
  unfold offS totS
  rw [List.take_length]
  induction bs with
  | nil => simp
  | cons b bs ih => simp only [List.map_cons, List.sum_cons, List.length_cons]; omega
theorem offS_ge {bs : SV} {n : Nat} (h : n ≤ bs.length) : n ≤ offS bs n := by
  induction n with
  | zero => omega
  | succ n ih => have := ih (by omega); rw [offS_succ (by omega)]; omega
/-- Servers that were marked from k on, readable below B. -/
def Mk (w : World) (B : Nat) (a : Option Addr) (n : Nat) (k : Int) (bs : SV) : Prop :=
  n = 0 ∨ ∃ g, a = some ⟨g, 0, none⟩ ∧ g < B ∧ ∃ sl : Nat → Option Addr × Nat, ∀ i, i < n → w.cell? ⟨g, i * 2, none⟩ = some (.int .i64 (k + (offS bs i : Int))) ∧ w.cell? ⟨g, i * 2 + 1, none⟩ = some (.slice (sl i).1 (bs.getD i (0, [])).2.length (sl i).2) ∧ Sl 2 w B (sl i).1 (bs.getD i (0, [])).2.length (mkG (k + (offS bs i : Int) + 1) 2)
theorem Mk.below {w w' : World} {B n : Nat} {a : Option Addr} {k : Int} {bs : SV} (h : Mk w B a n k bs) (hb : Below B w w') : Mk w' B a n k bs := by
  rcases h with h | ⟨g, e, hg, sl, hc⟩
  · exact .inl h
  · exact .inr ⟨g, e, hg, sl, fun i hi => ⟨(hb.cell (p := ⟨g, _, none⟩) hg).trans (hc i hi).1, (hb.cell (p := ⟨g, _, none⟩) hg).trans (hc i hi).2.1, (hc i hi).2.2.below hb⟩⟩
theorem Mk.mono {w : World} {B B' n : Nat} {a : Option Addr} {k : Int} {bs : SV} (h : Mk w B a n k bs) (hB : B ≤ B') : Mk w B' a n k bs := by
  rcases h with h | ⟨g, e, hg, sl, hc⟩
  · exact .inl h
  · exact .inr ⟨g, e, by omega, sl, fun i hi => ⟨(hc i hi).1, (hc i hi).2.1, (hc i hi).2.2.mono hB⟩⟩
theorem ow_keep {w w' : World} {k B n : Nat} {a : Option Addr} {g : Nat → Nat → Value} (h : Ow k w B a n g) (hk : ∀ c cs T, 0 < n → a = some ⟨c, 0, none⟩ → Blk w c cs T → Blk w' c cs T) : Ow k w' B a n g := by
  refine ⟨h.1, ?_⟩
  rcases h.2 with h0 | ⟨b2, cs2, T2, e2, hB2, hk2, hc2⟩
  · exact .inl h0
  · by_cases hn : n = 0
    · exact .inl hn
    · exact .inr ⟨b2, cs2, T2, e2, hB2, hk b2 cs2 T2 (by omega) e2 hk2, hc2⟩
/-- One slice of tickets is marked: nothing else turns. -/
theorem markTk1 (k : Int) (hk0 : 0 ≤ k) (hk1 : k ≤ 1000000000) (a : Option Addr) (n cap B H b : Nat) (g : Nat → Nat → Value) (w : World) (hn : n ≤ 1048576) (hO : Ow 2 w B a n g) (hP : Apt H b a n) :
    Calls Try.prog 37 #[.slice a n cap, .int .i64 k] w fun e w' => e = .returned (.int .i64 (k + 2 * n)) ∧ Ow 2 w' B a n (mkG k 2) ∧ Chg B H w w' ∧ ∀ c cs T, Blk w c cs T → (0 < n → a ≠ some ⟨c, 0, none⟩) → Blk w' c cs T := by
  by_cases h0 : n = 0
  · refine (markTkS_c k hk0 hk1 a n cap B 0 g w hn hO ⟨by omega, .inl h0⟩).mono ?_
    rintro e w' ⟨rfl, hc, ho⟩
    exact ⟨rfl, ho, hc.mono (Nat.le_refl _) (Nat.zero_le _), fun c cs T hk _ => hk.chg hc (.inr (Nat.zero_le _))⟩
  · obtain ⟨b', rfl, hH, hne⟩ : ∃ b', a = some ⟨b', 0, none⟩ ∧ b' < H ∧ b' ≠ b := by
      rcases hP with h | h
      · omega
      · exact h
    obtain ⟨cs, T, hB, hk, hcs⟩ : ∃ cs T, B ≤ b' ∧ Blk w b' cs T ∧ ∀ i, i < n → ∀ j, j < 2 → cs[i * 2 + j]? = some (g i j) := by
      rcases hO.2 with h | ⟨b2, cs, T, e, hB, hk, hc⟩
      · omega
      · simp only [Option.some.injEq, Addr.mk.injEq, and_true] at e
        subst e
        exact ⟨cs, T, hB, hk, hc⟩
    refine (markTkS_c k hk0 hk1 (some ⟨b', 0, none⟩) n cap b' (b' + 1) g w hn ⟨hO.1, .inr ⟨b', cs, T, rfl, Nat.le_refl _, hk, hcs⟩⟩ ⟨by omega, .inr ⟨b', 0, rfl, by omega, fun i hi j hj => by rw [Nat.zero_add]; exact hk.cell _ (hcs i hi j hj)⟩⟩).mono ?_
    rintro e w' ⟨rfl, hc, ho⟩
    refine ⟨rfl, ho.mono hB, hc.mono hB hH, fun c cs T hk' hne' => hk'.chg hc ?_⟩
    have : c ≠ b' := by rintro rfl; exact hne' (by omega) rfl
    omega
theorem markRS0_c (k : Int) (hk0 : 0 ≤ k) (hk1 : k ≤ 1000) (a : Option Addr) (cap : Nat) (w : World) :
    Calls Try.prog 14 #[.slice a (0 : Nat) cap, .int .i64 k] w fun e w' => e = .returned (.int .i64 k) ∧ w = w' := by
  go_enter Try.func14, Try.ntmps14
  go_wp2_with fail
  go_loopw [1, 5] (fun q i wr => q = .int .i64 k ∧ i = .int .i64 0 ∧ w = wr) (fun _ _ _ => 0)
  case atStart => exact ⟨rfl, rfl, rfl⟩
  case round =>
    obtain ⟨rfl, rfl, rfl⟩ := hrel
    go_wp2_with fail
    go_ret
    exact ⟨rfl, rfl⟩
set_option maxHeartbeats 2000000 in
theorem markRS_c (k : Int) (hk0 : 0 ≤ k) (hk1 : k ≤ 1000) (a : Option Addr) (n cap B H : Nat) (bl : SR) (w : World) (hl : bl.length = n) (hob : offS (srvs bl) n ≤ 100000000) (HB : Rw w B H a bl) :
    Calls Try.prog 14 #[.slice a n cap, .int .i64 k] w fun e w' => e = .returned (.int .i64 (k + (offS (srvs bl) n : Int))) ∧ Chg B H w w' ∧ Mk w' w'.heap.size a n k (srvs bl) := by
  rcases HB with rfl | ⟨b, cs0, rfl, h1, h2, B0, hs0, hc0, hi0, hdj⟩
  · obtain rfl : n = 0 := hl.symm
    refine (markRS0_c k hk0 hk1 a cap w).mono ?_
    rintro e w' ⟨rfl, rfl⟩
    exact ⟨by simp [offS], Chg.refl _ _ _, .inl rfl⟩
  have hbl := srvs_len bl
  have hnn : n ≤ 100000000 := Nat.le_trans (offS_ge (by omega)) hob
  have HDJ := Lib.hid hdj
  have HAP := Lib.hid (fun i (hi : i < n) => (hi0 (bl.getD i (0, [], none, 0)) (getD_mem (by omega))).2.1)
  have HLN := Lib.hid (fun i (hi : i < n) => (hi0 (bl.getD i (0, [], none, 0)) (getD_mem (by omega))).1)
  have HOF := Lib.hid (fun i (hi : i < n) => offS_succ (bs := srvs bl) (k := i) (by omega))
  have HOL := Lib.hid (fun i (hi : i ≤ n) => offS_le (bs := srvs bl) hi)
  have HHB := Lib.hid (And.intro h1 h2)
  have OW0 : ∀ i, 0 ≤ i → i < n → Ow 2 w B (bl.getD i (0, [], none, 0)).2.2.1 (bl.getD i (0, [], none, 0)).2.1.length (tkG (bl.getD i (0, [], none, 0)).2.1) := fun i _ hi => (hi0 _ (getD_mem (by omega))).2.2
  have SL0 : ∀ i, i < n → cs0[i * 2 + 1]? = some (inS (bl.getD i (0, [], none, 0))) := fun i hi => (hc0 i (by omega)).2
  have hobi : (offS (srvs bl) n : Int) ≤ 100000000 := by omega
  have qb : b < w.heap.size := B0.lt
  clear hdj hi0 hc0
  go_enter Try.func14, Try.ntmps14
  go_wp2_with fail
  go_loopw [1, 5] (fun q i wr => ∃ m : Nat, m ≤ n ∧ i = .int .i64 m ∧ q = .int .i64 (k + (offS (srvs bl) m : Int)) ∧ Chg B H w wr ∧ (∃ cs : Array Value, Blk wr b cs 42 ∧ n * 2 ≤ cs.size ∧ (∀ i, i < n → cs[i * 2 + 1]? = some (inS (bl.getD i (0, [], none, 0)))) ∧ ∀ i, i < m → cs[i * 2]? = some (.int .i64 (k + (offS (srvs bl) i : Int)))) ∧ (∀ i, m ≤ i → i < n → Ow 2 wr B (bl.getD i (0, [], none, 0)).2.2.1 (bl.getD i (0, [], none, 0)).2.1.length (tkG (bl.getD i (0, [], none, 0)).2.1)) ∧ ∀ i, i < m → Ow 2 wr B (bl.getD i (0, [], none, 0)).2.2.1 (bl.getD i (0, [], none, 0)).2.1.length (mkG (k + (offS (srvs bl) i : Int) + 1) 2)) (fun _ i _ => n - (intOf i).toNat)
  case atStart => exact ⟨0, by omega, rfl, by simp [offS], Chg.refl _ _ _, ⟨cs0, B0, by omega, SL0, fun i hi => by omega⟩, OW0, fun i hi => by omega⟩
  case round =>
    clear OW0 SL0 B0
    obtain ⟨m, hm, rfl, rfl, hC, ⟨cs, Bk, hcs, hsl, hmk⟩, hot, hom⟩ := hrel
    by_cases hlt : m < n
    · have hki : (m : Int) < (n : Int) := by omega
      have hsm := HOF.out m hlt
      have hsn := HOL.out (m + 1) hlt
      have hln := HLN.out m hlt
      have hap := HAP.out m hlt
      have how := hot m (Nat.le_refl _) hlt
      have x1 := hsl m hlt
      rw [srvs_at] at hsm
      obtain ⟨t, htt⟩ : ∃ t, bl.getD m (0, [], none, 0) = t := ⟨_, rfl⟩
      rw [htt] at hsm hln hap how x1
      replace hsm : offS (srvs bl) (m + 1) = offS (srvs bl) m + (1 + 2 * t.2.1.length) := hsm
      unfold inS at x1
      obtain ⟨v0, e0⟩ := arr_some (show m * 2 < cs.size by omega)
      have c0 := Bk.cell _ e0
      have c1 := Bk.cell _ x1
      have f0 := Bk.free (m * 2)
      have q := Bk.lt
      obtain ⟨s, hs⟩ : ∃ s, offS (srvs bl) m = s := ⟨_, rfl⟩
      have HS := Lib.hid hs
      rw [hs] at hsm ⊢
      have hs2 : (s : Int) + 1 + 2 * (t.2.1.length : Int) ≤ 100000000 := by omega
      have hw : wrap64 (k + (s : Int) + 1) = k + (s : Int) + 1 := IntWalk.wrap64_in _ (by omega)
      have HM := Lib.hid (fun v => markTk1 (k + (s : Int) + 1) (by omega) (by omega) t.2.2.1 t.2.1.length t.2.2.2 B H b _ (wr.setCell ⟨b, m * 2, none⟩ v) hln (ow_oth how hap) hap)
      have HAm := Lib.hid hap
      have HOT := Lib.hid hot
      have HOM := Lib.hid hom
      have HSL := Lib.hid hsl
      have HMK := Lib.hid hmk
      have HSM := Lib.hid hsm
      have HTT := Lib.hid htt
      have HB1 := Lib.hid (fun v => Bk.set (m * 2) v)
      clear hsm hln hap how x1 htt e0 hs Bk hsl hmk hot hom
      go_wp2_with fail
      refine (HM.out _).mono ?_
      rintro e w3 ⟨rfl, hO3, hC3, hK3⟩
      go_wp2_with fail
      go_roundw
      case rel =>
        have hbk3 := hK3 b _ _ (HB1.out (.int .i64 (k + (s : Int)))) (fun hn he => by
          rcases HAm.out with h | ⟨b', e', _, hne⟩
          · omega
          · rw [e'] at he
            simp only [Option.some.injEq, Addr.mk.injEq, and_true] at he
            exact hne he)
        have keepO : ∀ i, i ≠ m → i < n → ∀ g, Ow 2 wr B (bl.getD i (0, [], none, 0)).2.2.1 (bl.getD i (0, [], none, 0)).2.1.length g → Ow 2 w3 B (bl.getD i (0, [], none, 0)).2.2.1 (bl.getD i (0, [], none, 0)).2.1.length g := fun i hne hi g h => by
          refine ow_keep (ow_oth (b := b) (j := m * 2) (u := .int .i64 (k + (s : Int))) h (HAP.out i hi)) (fun c cs' T hn he hk' => hK3 c cs' T hk' (fun hn' he' => ?_))
          refine HDJ.out m i (by omega) (by omega) (Ne.symm hne) (by rw [HTT.out]; exact hn') hn ?_
          rw [HTT.out, he', he]
        refine ⟨m + 1, by omega, by go_num, by rw [HSM.out]; congr 1; push_cast; omega, (Chg.set hC (.inl HHB.out) _ _).trans hC3, ⟨_, hbk3, by simpa using hcs, fun i hi => ?_, fun i hi => ?_⟩, fun i hi hin => ?_, fun i hi => ?_⟩
        · rw [Array.getElem?_setIfInBounds_ne (by omega)]; exact HSL.out i hi
        · by_cases e : i = m
          · subst e; rw [Array.getElem?_setIfInBounds_self_of_lt (by omega), HS.out]
          · rw [Array.getElem?_setIfInBounds_ne (by omega)]; exact HMK.out i (by omega)
        · exact keepO i (by omega) hin _ (HOT.out i (by omega) hin)
        · by_cases e : i = m
          · subst e; rw [HS.out, HTT.out]; exact hO3
          · exact keepO i e (by omega) _ (HOM.out i (by omega))
      case measure => simp [intOf]; omega
    · obtain rfl : m = n := by omega
      have HMk := Lib.hid (show Mk wr wr.heap.size (some ⟨b, 0, none⟩) m k (srvs bl) from .inr ⟨b, rfl, Bk.lt, fun i => (bl.getD i (0, [], none, 0)).2.2, fun i hi => ⟨Bk.cell _ (hmk i hi), by rw [srvs_at]; exact Bk.cell _ (hsl i hi), by rw [srvs_at]; exact (hom i hi).sl⟩⟩)
      clear Bk hsl hmk hot hom
      go_wp2_with fail
      go_ret
      exact ⟨rfl, hC, HMk.out⟩
set_option maxHeartbeats 2000000 in
theorem heldRS_c (k : Int) (hk0 : 0 ≤ k) (hk1 : k ≤ 1000) (a : Option Addr) (n cap : Nat) (bs : SV) (w : World) (hl : bs.length = n) (hob : offS bs n ≤ 1000000) (HM : Mk w w.heap.size a n k bs) :
    Calls Try.prog 15 #[.slice a n cap, .int .i64 k] w fun e w' => e = .returned (.int .i64 (k + (offS bs n : Int))) ∧ w = w' := by
  have HOF := Lib.hid (fun i (hi : i < n) => offS_succ (bs := bs) (k := i) (by omega))
  have HOL := Lib.hid (fun i (hi : i ≤ n) => offS_le (bs := bs) hi)
  have HN := Lib.hid HM
  have hnn : n ≤ 1000000 := Nat.le_trans (offS_ge (by omega)) hob
  clear HM
  go_enter Try.func15, Try.ntmps15
  go_wp2_with fail
  go_loopw [1, 5] (fun q i wr => ∃ m : Nat, m ≤ n ∧ i = .int .i64 m ∧ q = .int .i64 (k + (offS bs m : Int)) ∧ w = wr) (fun _ i _ => n - (intOf i).toNat)
  case atStart => exact ⟨0, by omega, rfl, by simp [offS], rfl⟩
  case round =>
    obtain ⟨m, hm, rfl, rfl, rfl⟩ := hrel
    by_cases hlt : m < n
    · have hki : (m : Int) < (n : Int) := by omega
      obtain ⟨g, rfl, hg, sl, hc⟩ : ∃ g, a = some ⟨g, 0, none⟩ ∧ g < w.heap.size ∧ ∃ sl : Nat → Option Addr × Nat, ∀ i, i < n → w.cell? ⟨g, i * 2, none⟩ = some (.int .i64 (k + (offS bs i : Int))) ∧ w.cell? ⟨g, i * 2 + 1, none⟩ = some (.slice (sl i).1 (bs.getD i (0, [])).2.length (sl i).2) ∧ Sl 2 w w.heap.size (sl i).1 (bs.getD i (0, [])).2.length (mkG (k + (offS bs i : Int) + 1) 2) := by
        rcases HN.out with h | h
        · omega
        · exact h
      obtain ⟨x0, x1, x2⟩ := hc m hlt
      have hsm := HOF.out m hlt
      have hsn := HOL.out (m + 1) hlt
      obtain ⟨L, hL⟩ : ∃ L, (bs.getD m (0, [])).2.length = L := ⟨_, rfl⟩
      rw [hL] at x1 x2 hsm
      obtain ⟨s, hs⟩ : ∃ s, offS bs m = s := ⟨_, rfl⟩
      rw [hs] at x0 x2 hsm ⊢
      have hs2 : (s : Int) + 1 + 2 * (L : Int) ≤ 1000000 := by omega
      have hw : wrap64 (k + (s : Int) + 1) = k + (s : Int) + 1 := IntWalk.wrap64_in _ (by omega)
      have hnn2 : ¬ k + (s : Int) + 1 + 2 * (L : Int) < 0 := by omega
      have HH := Lib.hid (heldTkS_c (k + (s : Int) + 1) (by omega) (by omega) (sl m).1 L (sl m).2 w (by omega) x2)
      have HSM := Lib.hid hsm
      clear hc x2 hsm hs hL
      go_wp2_with fail
      refine HH.out.mono ?_
      rintro e w3 ⟨rfl, rfl⟩
      go_wp2_with fail
      go_roundw
      case rel => exact ⟨m + 1, by omega, by go_num, by rw [HSM.out]; congr 1; push_cast; omega, by first | rfl | trivial⟩
      case measure => simp [intOf]; omega
    · obtain rfl : m = n := by omega
      go_wp2_with fail
      go_ret
      exact ⟨rfl, rfl⟩
end Go.Proofs.Ytjlaikmilcgmhaa
