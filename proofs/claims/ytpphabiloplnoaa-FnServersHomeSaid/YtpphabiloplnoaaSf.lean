/- Steps of the laws on servers. -/
import Derived.Test.YtpphabiloplnoaaSe
import Derived.Test.YtpphabiloplnoaaTh
namespace Go.Proofs.Ytpphabiloplnoaa
open Go.RowKit
set_option linter.unusedVariables false
theorem ns_push {w : World} {n : Nat} {a : Option Addr} {ss : SV} (h : Ns 2 tkG w w.heap.size a n ss) (o : Obj) : Ns 2 tkG (w.alloc o) (w.alloc o).heap.size a n ss :=
  (h.below (bpush (Below.refl w.heap.size w) o)).mono (bpush (Below.refl w.heap.size w) o).size
theorem ns_step {w w' : World} {n : Nat} {a : Option Addr} {ss : SV} (h : Ns 2 tkG w w.heap.size a n ss) (hb : Below w.heap.size w w') : Ns 2 tkG w' w'.heap.size a n ss :=
  (h.below hb).mono hb.size
theorem nr_step {w w' : World} {n : Nat} {a : Option Addr} {ss : SV} (h : Nr w w.heap.size a n ss) (hb : Below w.heap.size w w') : Nr w' w'.heap.size a n ss :=
  (h.below hb).mono hb.size
theorem stry_u (A : Int) (t : Int × Int) (a : Option Addr) (n cap : Nat) (ss : SV) (w : World) (HB : Nr w w.heap.size a n ss) :
    Calls Try.prog 14 #[.slice a n cap, .int .i64 A, .agg #[.int .i64 t.1, .int .i64 t.2]] w fun e w' =>
      ∃ (a : Option Addr) (c : Nat), e = .returned (.tuple #[.slice a (sRes ss A t).length c, .bool (sV ss A t)]) ∧ Below w.heap.size w w' ∧ Nr w' w'.heap.size a (sRes ss A t).length (sRes ss A t) :=
  stry_impl A t a n cap ss w HB
theorem srej {ss : SV} {A : Int} {t : Int × Int} (h : sTryOk ss A t = true) (ha : sAcc ss A t = false) : sRes ss A t = ss ∧ sV ss A t = false := by
  unfold sRes sV sPut; rw [h, ha]; exact ⟨rfl, rfl⟩
theorem sacc {ss : SV} {A : Int} {t : Int × Int} (h : sTryOk ss A t = true) (ha : sAcc ss A t = true) : sRes ss A t = sPut ss A t ∧ sV ss A t = true := by
  unfold sRes sV; rw [h, ha]; exact ⟨rfl, rfl⟩
/-- What was not empty came of a try. -/
theorem sok_of {ss : SV} {A : Int} {t : Int × Int} (h : (sRes ss A t).length ≠ 0) : sTryOk ss A t = true := by
  cases e : sTryOk ss A t
  · rw [(sres_no e).1] at h; exact absurd rfl h
  · rfl
theorem sok_v {ss : SV} {A : Int} {t : Int × Int} (h : sV ss A t = true) : sTryOk ss A t = true ∧ sAcc ss A t = true := by
  unfold sV at h
  simpa using h
theorem reject_s {ss : SV} {A : Int} {t : Int × Int} (h : (sRes ss A t).length ≠ 0) (hv : sV ss A t = false) : sRes ss A t = ss := by
  have k := sok_of h
  refine (srej k ?_).1
  unfold sV at hv
  rwa [k, Bool.true_and] at hv
theorem home_s {ss : SV} {A : Int} {t : Int × Int} (hv : sV ss A t = true) : (sRes ss A t).length = ss.length ∧ (1 ≤ ss.length ∧ ss.length ≤ 4) ∧ (0 ≤ A ∧ A < ss.length) ∧ homeF (ss.length : Int) t.1 t.2 = A ∧ ∀ i : Nat, (i : Int) ≠ A → (sRes ss A t).getD i (0, []) = ss.getD i (0, []) := by
  obtain ⟨h, ha⟩ := sok_v hv
  obtain ⟨h1, h2, h3, h4⟩ := stry_t h
  have hl := (srv_t h1).1
  obtain ⟨e, _⟩ := sacc h ha
  rw [e]
  refine ⟨sput_len _ _ _, hl, ⟨h3, h4⟩, ?_, fun i hi => sput_other h3 h4 hi⟩
  unfold homeF
  rw [if_pos ⟨inB_t (by omega), h2⟩]
  unfold sAcc at ha
  simp only [Bool.and_eq_true, decide_eq_true_eq] at ha
  exact ha.1.symm
theorem once_s {ss : SV} {A : Int} {t : Int × Int} (hv : sV ss A t = true) : ((sRes ss A t).length ≤ 4) ∧ ∀ i : Nat, i < (sRes ss A t).length → sRes (sRes ss A t) i t = sRes ss A t ∧ sV (sRes ss A t) i t = false := by
  obtain ⟨h, ha⟩ := sok_v hv
  obtain ⟨h1, h2, h3, h4⟩ := stry_t h
  have hl := (srv_t h1).1
  obtain ⟨e, _⟩ := sacc h ha
  rw [e, sput_len]
  refine ⟨by omega, fun i hi => srej ?_ ?_⟩
  · exact stry_mk (sput_ok h) h2 (by omega) (by rw [sput_len]; omega)
  · exact sacc_again h ha ⟨by omega, by omega⟩
/-- Servers of n, to which t has been presented some times, m of these with success. -/
def Turn (n : Nat) (t : Int × Int) (m : Nat) (X : SV) : Prop :=
  X.length = n ∧ srvOk X = true ∧ m ≤ 1 ∧ (m = 1 → ∀ j : Nat, j < n → sAcc X j t = false)
theorem turn_0 {ss : SV} {A : Int} {t : Int × Int} (h : sTryOk ss A t = true) : Turn ss.length t 0 ss ∧ tkOk t.1 t.2 = true ∧ 1 ≤ ss.length ∧ ss.length ≤ 4 := by
  obtain ⟨h1, h2, h3, h4⟩ := stry_t h
  have hl := (srv_t h1).1
  exact ⟨⟨rfl, h1, by omega, fun h => by omega⟩, h2, hl.1, hl.2⟩
theorem turn_step {n m : Nat} {t : Int × Int} {X : SV} (h : Turn n t m X) (ht : tkOk t.1 t.2 = true) {j : Nat} (hj : j < n) : Turn n t (if sV X j t = true then m + 1 else m) (sRes X j t) ∧ (sRes X j t).length = n := by
  obtain ⟨hl, hv, hm, hacc⟩ := h
  have hok : sTryOk X j t = true := stry_mk hv ht (by omega) (by omega)
  cases ha : sAcc X j t
  · obtain ⟨e1, e2⟩ := srej hok ha
    rw [e1, e2]
    exact ⟨⟨hl, hv, hm, hacc⟩, hl⟩
  · obtain ⟨e1, e2⟩ := sacc hok ha
    rw [e1, e2, if_pos rfl]
    have hm0 : m = 0 := by
      rcases Nat.lt_or_ge m 1 with g | g
      · omega
      · have := hacc (by omega) j hj; rw [ha] at this; cases this
    subst hm0
    refine ⟨⟨by rw [sput_len, hl], sput_ok hok, by omega, fun _ i hi => sacc_again hok ha ⟨by omega, by omega⟩⟩, by rw [sput_len, hl]⟩
end Go.Proofs.Ytpphabiloplnoaa
