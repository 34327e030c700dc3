/- Two lists of registers that are the same. -/
import Derived.Test.YtjlaikmilcgmhaaSb
import Derived.Deep.RegionLaw
namespace Go.Proofs.Ytjlaikmilcgmhaa
open Go.RowKit
set_option linter.unusedVariables false
attribute [local go_sem ↓] Go.wp_at_zero Go.wp_at_succ

/-- Servers that can be read. -/
def Nr (w : World) (B : Nat) (a : Option Addr) (n : Nat) (xs : SV) : Prop :=
  xs.length = n ∧ ∃ sl : Nat → Option Addr × Nat, Sl 2 w B a n (nsG xs sl) ∧ ∀ i, i < n → Sl 2 w B (sl i).1 (xs.getD i (0, [])).2.length (tkG (xs.getD i (0, [])).2)
section
variable {n B B' : Nat} {w w' : World} {a : Option Addr} {xs : SV}
theorem Ns.nr (h : Ns 2 tkG w B a n xs) : Nr w B a n xs := by
  obtain ⟨h0, sl, h1, h2⟩ := h
  exact ⟨h0, sl, h1, fun i hi => (h2 i hi).2⟩
theorem Nr.length (h : Nr w B a n xs) : xs.length = n := h.1
theorem Nr.len (h : Nr w B a n xs) : (n : Int) ≤ 9223372036854775807 := by
  obtain ⟨_, sl, h1, _⟩ := h
  exact h1.len
theorem Nr.below (h : Nr w B a n xs) (hb : Below B w w') : Nr w' B a n xs := by
  obtain ⟨h0, sl, h1, h2⟩ := h
  exact ⟨h0, sl, h1.below hb, fun i hi => (h2 i hi).below hb⟩
theorem Nr.mono (h : Nr w B a n xs) (hB : B ≤ B') : Nr w B' a n xs := by
  obtain ⟨h0, sl, h1, h2⟩ := h
  exact ⟨h0, sl, h1.mono hB, fun i hi => (h2 i hi).mono hB⟩
theorem Nr.at (h : Nr w B a n xs) {i : Nat} (hi : i < n) : ∃ b off a' c', a = some ⟨b, off, none⟩ ∧ b < B ∧ w.cell? ⟨b, off + i * 2, none⟩ = some (.int .i64 (xs.getD i (0, [])).1) ∧ w.cell? ⟨b, off + i * 2 + 1, none⟩ = some (.slice a' (xs.getD i (0, [])).2.length c') ∧ Sl 2 w B a' (xs.getD i (0, [])).2.length (tkG (xs.getD i (0, [])).2) := by
  obtain ⟨h0, sl, h1, h2⟩ := h
  obtain ⟨b, off, rfl, hB, hc⟩ := h1.at hi
  exact ⟨b, off, (sl i).1, (sl i).2, rfl, hB, hc i hi 0 (by omega), hc i hi 1 (by omega), h2 i hi⟩
theorem Nr.nil (w : World) (B : Nat) (a : Option Addr) : Nr w B a 0 [] :=
  ⟨rfl, fun _ => (none, 0), ⟨by omega, .inl rfl⟩, fun i hi => by omega⟩
end
/-- Whether registers are valid. -/
theorem servers_c (a : Option Addr) (n cap : Nat) (ss : SV) (w : World) (HB : Nr w w.heap.size a n ss) :
    Calls Try.prog 29 #[.slice a n cap] w fun e w' => e = .returned (.bool (srvOk ss)) ∧ Below w.heap.size w w' := by
  have hn := HB.len
  have hl := HB.length
  have HN := Lib.hid HB
  have hb0 := Below.refl w.heap.size w
  clear HB
  go_enter Try.func29, Try.ntmps29
  go_wp2_with fail
  go_loopw [3] (fun i wr => ∃ k : Nat, k ≤ n ∧ i = .int .i64 k ∧ (∀ i, i < k → regOk (ss.getD i (0, [])).1 (ss.getD i (0, [])).2 = true) ∧ Below w.heap.size w wr) (fun i _ => n - (intOf i).toNat)
  case atStart => exact ⟨0, by omega, rfl, fun i hi => by omega, hb0⟩
  case round =>
    obtain ⟨k, hk, rfl, hall, hbk⟩ := hrel
    have HA := Lib.hid hall
    clear hb0 hall
    by_cases hlt : k < n
    · have hki : (k : Int) < (n : Int) := by omega
      obtain ⟨b, off, a2, c2, rfl, hB, x0, x1, hs⟩ := (HN.out.below hbk).at hlt
      obtain ⟨bx, hbx⟩ : ∃ p, ss.getD k (0, []) = p := ⟨_, rfl⟩
      rw [hbx] at x0 x1 hs
      have HE := Lib.hid (rvalid_spec bx.1 a2 bx.2.length c2 bx.2 wr rfl (hs.mono hbk.size))
      cases hv : regOk bx.1 bx.2
      · have hno : srvOk ss = false := srv_no (i := k) (by omega) (by rw [hbx]; exact hv)
        rw [hv] at HE
        clear hs HN
        go_wp2_with fail
        refine HE.out.mono ?_
        rintro e1 w2 ⟨rfl, hb2⟩
        go_wp2_with fail
        go_ret
        exact ⟨by rw [hno]; rfl, bstep hbk hb2⟩
      · rw [hv] at HE
        clear hs HN
        go_wp2_with fail
        refine HE.out.mono ?_
        rintro e1 w2 ⟨rfl, hb2⟩
        go_wp2_with fail
        go_roundw
        case rel =>
          refine ⟨k + 1, by omega, by go_num, fun i hi => ?_, bstep hbk hb2⟩
          by_cases e : i = k
          · subst e; rw [hbx]; exact hv
          · exact HA.out i (by omega)
        case measure => simp [intOf]; omega
    · obtain rfl : k = n := by omega
      have E : srvOk ss = inB (k : Int) 1 4 := by
        cases h : inB (k : Int) 1 4
        · unfold srvOk; rw [hl, h]; rfl
        · have : 1 ≤ (k : Int) ∧ (k : Int) ≤ 4 := by simpa [inB] using h
          exact srv_mk (by omega) (by rw [hl]; exact HA.out)
      go_wp2_with (go_at_call 31; refine (l6In_c _ _ _ _).mono ?_; rintro e w' ⟨rfl, rfl⟩)
      go_ret
      exact ⟨by rw [E]; rfl, hbk⟩
end Go.Proofs.Ytjlaikmilcgmhaa
