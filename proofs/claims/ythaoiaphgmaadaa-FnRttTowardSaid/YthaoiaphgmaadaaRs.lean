/- Contracts of the reference update of an estimate. -/
import Derived.Test.YthaoiaphgmaadaaRu
import Derived.Deep.RegionHeld3
namespace Go.Proofs.Ythaoiaphgmaadaa
open Go.RowKit
set_option linter.unusedVariables false

set_option maxHeartbeats 600000 in
theorem quiet_l {P : Program} {f : FuncId} {args : Array Value} {w : World} {n : Nat} {v : Value}
    (h : Calls P f args (w.drewN n) fun e w' => e = .returned v ∧ w.drewN n = w') : Calls P f args (w.drewN n) fun e w'' => e = .returned v ∧ ∃ m, w'' = w.drewN m :=
  h.mono fun _ _ ⟨he, hm⟩ => ⟨he, n, hm.symm⟩
set_option maxHeartbeats 600000 in
theorem uD_arith (d x y : Int) : d - y + x = d + (x - y) := by omega
set_option maxHeartbeats 600000 in
theorem uC_arith (c x y : Int) : c - y + x = c + (x - y) := by omega

set_option maxHeartbeats 600000 in
theorem abs_neg (n : Int) (w : World) (h : n < 0) (h1 : -1000000 ≤ n) : Calls Try.prog 19 #[.int .i64 n] w fun e w' => e = .returned (.int .i64 (-n)) ∧ w = w' := by
  go_enter Try.func19, Try.ntmps19
  go_wp2
  go_ret
  exact ⟨rfl, rfl⟩
set_option maxHeartbeats 600000 in
theorem abs_pos (n : Int) (w : World) (h : 0 ≤ n) : Calls Try.prog 19 #[.int .i64 n] w fun e w' => e = .returned (.int .i64 n) ∧ w = w' := by
  go_enter Try.func19, Try.ntmps19
  go_wp2
  go_ret
  exact ⟨rfl, rfl⟩

set_option maxHeartbeats 600000 in
theorem l21_zero (s e : Int) (w : World) (h1 : 1 ≤ s ∧ s ≤ 999) :
    Calls Try.prog 18 #[.agg #[.int .i64 0, .int .i64 0, .int .i64 0, .int .i64 0], .int .i64 s, .int .i64 e] w fun e1 w' => e1 = .returned (.agg #[.int .i64 s, .int .i64 s, .int .i64 (8 * s), .int .i64 (2 * s)]) ∧ Below w.heap.size w w' := by
  obtain ⟨h11, h12⟩ := h1
  go_enter Try.func18, Try.ntmps18
  go_wp2
  refine bodyPost_ret ?hr rfl ⟨rfl, ?_⟩
  case hr => simp [results, Try.results18, go_sem]
  repeat (first | exact Below.refl _ _ | refine Below.drew ?_ | refine Below.setCell ?_ (by simp <;> omega) _ | refine Below.alloc ?_ (by simp <;> omega) _)
set_option maxHeartbeats 600000 in
theorem l21_y1 (a b c d s e : Int) (w : World) (hv : rttOk a b c d = true) (ha : a ≠ 0) (h1 : 1 ≤ s ∧ s ≤ 999) (h2 : 0 ≤ e ∧ e ≤ 999) (hB : s < b) (hN : s - e < s) (hD : c / 8 - s < 0) :
    Calls Try.prog 18 #[.agg #[.int .i64 a, .int .i64 b, .int .i64 c, .int .i64 d], .int .i64 s, .int .i64 e] w fun e1 w' => e1 = .returned (.agg #[.int .i64 s, .int .i64 s, .int .i64 (c - c / 8 + s), .int .i64 (d - d / 4 + (-(c / 8 - s)))]) ∧ Below w.heap.size w w' := by
  obtain ⟨⟨k1, k2⟩, ⟨k3, k4⟩, ⟨k5, k6⟩, k7, k8⟩ := rttOk_t hv ha
  have ha' : (a == 0) = false := by simp [ha]
  obtain ⟨h11, h12⟩ := h1
  obtain ⟨h21, h22⟩ := h2
  clear ha hv
  have HC := Lib.hid (fun W => abs_neg _ W hD (by omega))
  have q1 : IntKind.i64.wrap (c.tdiv 8) = c / 8 := IntWalk.i64_quo c 8 (by omega)
  have q2 : IntKind.i64.wrap (d.tdiv 4) = d / 4 := IntWalk.i64_quo d 4 (by omega)
  have q3 : IntKind.i64.wrap (c / 8 - s) = c / 8 - s := IntWalk.i64_in _ (by omega)
  have q4 : IntKind.i64.wrap (d - d / 4) = d - d / 4 := IntWalk.i64_in _ (by omega)
  have q5 : IntKind.i64.wrap (d - d / 4 + (-(c / 8 - s))) = d - d / 4 + (-(c / 8 - s)) := IntWalk.i64_in _ (by omega)
  go_enter Try.func18, Try.ntmps18
  go_wp2
  go_region_held3 (fun W => W.cell? ⟨w.heap.size, 2, none⟩ = some (.int .i64 c) ∧ W.cell? ⟨w.heap.size, 3, none⟩ = some (.int .i64 d)) (simp [go_sem, *]) (first | (go_at_call 19; refine (HC.out _).mono ?_; rintro e1 w' ⟨rfl, rfl⟩))
  clear q1 q2 q3 q4 q5
  go_wp2
  refine bodyPost_ret ?hr rfl ⟨rfl, ?_⟩
  case hr =>
    simp only [results, Try.results18]
    go_simp
  repeat (first | with_reducible exact Below.refl _ _ | with_reducible refine Below.drew ?_ | with_reducible refine Below.setCell ?_ (by simp <;> omega) _ | with_reducible refine Below.alloc ?_ (by simp <;> omega) _)
set_option maxHeartbeats 600000 in
theorem l21_y2 (a b c d s e : Int) (w : World) (hv : rttOk a b c d = true) (ha : a ≠ 0) (h1 : 1 ≤ s ∧ s ≤ 999) (h2 : 0 ≤ e ∧ e ≤ 999) (hB : s < b) (hN : s - e < s) (hD : 0 ≤ c / 8 - s) :
    Calls Try.prog 18 #[.agg #[.int .i64 a, .int .i64 b, .int .i64 c, .int .i64 d], .int .i64 s, .int .i64 e] w fun e1 w' => e1 = .returned (.agg #[.int .i64 s, .int .i64 s, .int .i64 (c - c / 8 + s), .int .i64 (d - d / 4 + (c / 8 - s))]) ∧ Below w.heap.size w w' := by
  obtain ⟨⟨k1, k2⟩, ⟨k3, k4⟩, ⟨k5, k6⟩, k7, k8⟩ := rttOk_t hv ha
  have ha' : (a == 0) = false := by simp [ha]
  obtain ⟨h11, h12⟩ := h1
  obtain ⟨h21, h22⟩ := h2
  clear ha hv
  have HC := Lib.hid (fun W => abs_pos _ W hD)
  have q1 : IntKind.i64.wrap (c.tdiv 8) = c / 8 := IntWalk.i64_quo c 8 (by omega)
  have q2 : IntKind.i64.wrap (d.tdiv 4) = d / 4 := IntWalk.i64_quo d 4 (by omega)
  have q3 : IntKind.i64.wrap (c / 8 - s) = c / 8 - s := IntWalk.i64_in _ (by omega)
  have q4 : IntKind.i64.wrap (d - d / 4) = d - d / 4 := IntWalk.i64_in _ (by omega)
  have q5 : IntKind.i64.wrap (d - d / 4 + (c / 8 - s)) = d - d / 4 + (c / 8 - s) := IntWalk.i64_in _ (by omega)
  go_enter Try.func18, Try.ntmps18
  go_wp2
  go_region_held3 (fun W => W.cell? ⟨w.heap.size, 2, none⟩ = some (.int .i64 c) ∧ W.cell? ⟨w.heap.size, 3, none⟩ = some (.int .i64 d)) (simp [go_sem, *]) (first | (go_at_call 19; refine (HC.out _).mono ?_; rintro e1 w' ⟨rfl, rfl⟩))
  clear q1 q2 q3 q4 q5
  go_wp2
  refine bodyPost_ret ?hr rfl ⟨rfl, ?_⟩
  case hr =>
    simp only [results, Try.results18]
    go_simp
  repeat (first | with_reducible exact Below.refl _ _ | with_reducible refine Below.drew ?_ | with_reducible refine Below.setCell ?_ (by simp <;> omega) _ | with_reducible refine Below.alloc ?_ (by simp <;> omega) _)
set_option maxHeartbeats 600000 in
theorem l21_y3 (a b c d s e : Int) (w : World) (hv : rttOk a b c d = true) (ha : a ≠ 0) (h1 : 1 ≤ s ∧ s ≤ 999) (h2 : 0 ≤ e ∧ e ≤ 999) (hB : s < b) (hN : s ≤ s - e) (hD : c / 8 - (s - e) < 0) :
    Calls Try.prog 18 #[.agg #[.int .i64 a, .int .i64 b, .int .i64 c, .int .i64 d], .int .i64 s, .int .i64 e] w fun e1 w' => e1 = .returned (.agg #[.int .i64 s, .int .i64 s, .int .i64 (c - c / 8 + (s - e)), .int .i64 (d - d / 4 + (-(c / 8 - (s - e))))]) ∧ Below w.heap.size w w' := by
  obtain ⟨⟨k1, k2⟩, ⟨k3, k4⟩, ⟨k5, k6⟩, k7, k8⟩ := rttOk_t hv ha
  have ha' : (a == 0) = false := by simp [ha]
  obtain ⟨h11, h12⟩ := h1
  obtain ⟨h21, h22⟩ := h2
  clear ha hv
  have HC := Lib.hid (fun W => abs_neg _ W hD (by omega))
  have q1 : IntKind.i64.wrap (c.tdiv 8) = c / 8 := IntWalk.i64_quo c 8 (by omega)
  have q2 : IntKind.i64.wrap (d.tdiv 4) = d / 4 := IntWalk.i64_quo d 4 (by omega)
  have q3 : IntKind.i64.wrap (c / 8 - (s - e)) = c / 8 - (s - e) := IntWalk.i64_in _ (by omega)
  have q4 : IntKind.i64.wrap (d - d / 4) = d - d / 4 := IntWalk.i64_in _ (by omega)
  have q5 : IntKind.i64.wrap (d - d / 4 + (-(c / 8 - (s - e)))) = d - d / 4 + (-(c / 8 - (s - e))) := IntWalk.i64_in _ (by omega)
  go_enter Try.func18, Try.ntmps18
  go_wp2
  go_region_held3 (fun W => W.cell? ⟨w.heap.size, 2, none⟩ = some (.int .i64 c) ∧ W.cell? ⟨w.heap.size, 3, none⟩ = some (.int .i64 d)) (simp [go_sem, *]) (first | (go_at_call 19; refine (HC.out _).mono ?_; rintro e1 w' ⟨rfl, rfl⟩))
  clear q1 q2 q3 q4 q5
  go_wp2
  refine bodyPost_ret ?hr rfl ⟨rfl, ?_⟩
  case hr =>
    simp only [results, Try.results18]
    go_simp
  repeat (first | with_reducible exact Below.refl _ _ | with_reducible refine Below.drew ?_ | with_reducible refine Below.setCell ?_ (by simp <;> omega) _ | with_reducible refine Below.alloc ?_ (by simp <;> omega) _)
set_option maxHeartbeats 600000 in
theorem l21_y4 (a b c d s e : Int) (w : World) (hv : rttOk a b c d = true) (ha : a ≠ 0) (h1 : 1 ≤ s ∧ s ≤ 999) (h2 : 0 ≤ e ∧ e ≤ 999) (hB : s < b) (hN : s ≤ s - e) (hD : 0 ≤ c / 8 - (s - e)) :
    Calls Try.prog 18 #[.agg #[.int .i64 a, .int .i64 b, .int .i64 c, .int .i64 d], .int .i64 s, .int .i64 e] w fun e1 w' => e1 = .returned (.agg #[.int .i64 s, .int .i64 s, .int .i64 (c - c / 8 + (s - e)), .int .i64 (d - d / 4 + (c / 8 - (s - e)))]) ∧ Below w.heap.size w w' := by
  obtain ⟨⟨k1, k2⟩, ⟨k3, k4⟩, ⟨k5, k6⟩, k7, k8⟩ := rttOk_t hv ha
  have ha' : (a == 0) = false := by simp [ha]
  obtain ⟨h11, h12⟩ := h1
  obtain ⟨h21, h22⟩ := h2
  clear ha hv
  have HC := Lib.hid (fun W => abs_pos _ W hD)
  have q1 : IntKind.i64.wrap (c.tdiv 8) = c / 8 := IntWalk.i64_quo c 8 (by omega)
  have q2 : IntKind.i64.wrap (d.tdiv 4) = d / 4 := IntWalk.i64_quo d 4 (by omega)
  have q3 : IntKind.i64.wrap (c / 8 - (s - e)) = c / 8 - (s - e) := IntWalk.i64_in _ (by omega)
  have q4 : IntKind.i64.wrap (d - d / 4) = d - d / 4 := IntWalk.i64_in _ (by omega)
  have q5 : IntKind.i64.wrap (d - d / 4 + (c / 8 - (s - e))) = d - d / 4 + (c / 8 - (s - e)) := IntWalk.i64_in _ (by omega)
  go_enter Try.func18, Try.ntmps18
  go_wp2
  go_region_held3 (fun W => W.cell? ⟨w.heap.size, 2, none⟩ = some (.int .i64 c) ∧ W.cell? ⟨w.heap.size, 3, none⟩ = some (.int .i64 d)) (simp [go_sem, *]) (first | (go_at_call 19; refine (HC.out _).mono ?_; rintro e1 w' ⟨rfl, rfl⟩))
  clear q1 q2 q3 q4 q5
  go_wp2
  refine bodyPost_ret ?hr rfl ⟨rfl, ?_⟩
  case hr =>
    simp only [results, Try.results18]
    go_simp
  repeat (first | with_reducible exact Below.refl _ _ | with_reducible refine Below.drew ?_ | with_reducible refine Below.setCell ?_ (by simp <;> omega) _ | with_reducible refine Below.alloc ?_ (by simp <;> omega) _)
set_option maxHeartbeats 600000 in
theorem l21_y5 (a b c d s e : Int) (w : World) (hv : rttOk a b c d = true) (ha : a ≠ 0) (h1 : 1 ≤ s ∧ s ≤ 999) (h2 : 0 ≤ e ∧ e ≤ 999) (hB : b ≤ s) (hN : s - e < b) (hD : c / 8 - s < 0) :
    Calls Try.prog 18 #[.agg #[.int .i64 a, .int .i64 b, .int .i64 c, .int .i64 d], .int .i64 s, .int .i64 e] w fun e1 w' => e1 = .returned (.agg #[.int .i64 s, .int .i64 b, .int .i64 (c - c / 8 + s), .int .i64 (d - d / 4 + (-(c / 8 - s)))]) ∧ Below w.heap.size w w' := by
  obtain ⟨⟨k1, k2⟩, ⟨k3, k4⟩, ⟨k5, k6⟩, k7, k8⟩ := rttOk_t hv ha
  have ha' : (a == 0) = false := by simp [ha]
  obtain ⟨h11, h12⟩ := h1
  obtain ⟨h21, h22⟩ := h2
  clear ha hv
  have HC := Lib.hid (fun W => abs_neg _ W hD (by omega))
  have q1 : IntKind.i64.wrap (c.tdiv 8) = c / 8 := IntWalk.i64_quo c 8 (by omega)
  have q2 : IntKind.i64.wrap (d.tdiv 4) = d / 4 := IntWalk.i64_quo d 4 (by omega)
  have q3 : IntKind.i64.wrap (c / 8 - s) = c / 8 - s := IntWalk.i64_in _ (by omega)
  have q4 : IntKind.i64.wrap (d - d / 4) = d - d / 4 := IntWalk.i64_in _ (by omega)
  have q5 : IntKind.i64.wrap (d - d / 4 + (-(c / 8 - s))) = d - d / 4 + (-(c / 8 - s)) := IntWalk.i64_in _ (by omega)
  go_enter Try.func18, Try.ntmps18
  go_wp2
  go_region_held3 (fun W => W.cell? ⟨w.heap.size, 2, none⟩ = some (.int .i64 c) ∧ W.cell? ⟨w.heap.size, 3, none⟩ = some (.int .i64 d)) (simp [go_sem, *]) (first | (go_at_call 19; refine (HC.out _).mono ?_; rintro e1 w' ⟨rfl, rfl⟩))
  clear q1 q2 q3 q4 q5
  go_wp2
  refine bodyPost_ret ?hr rfl ⟨rfl, ?_⟩
  case hr =>
    simp only [results, Try.results18]
    go_simp
  repeat (first | with_reducible exact Below.refl _ _ | with_reducible refine Below.drew ?_ | with_reducible refine Below.setCell ?_ (by simp <;> omega) _ | with_reducible refine Below.alloc ?_ (by simp <;> omega) _)
set_option maxHeartbeats 600000 in
theorem l21_y6 (a b c d s e : Int) (w : World) (hv : rttOk a b c d = true) (ha : a ≠ 0) (h1 : 1 ≤ s ∧ s ≤ 999) (h2 : 0 ≤ e ∧ e ≤ 999) (hB : b ≤ s) (hN : s - e < b) (hD : 0 ≤ c / 8 - s) :
    Calls Try.prog 18 #[.agg #[.int .i64 a, .int .i64 b, .int .i64 c, .int .i64 d], .int .i64 s, .int .i64 e] w fun e1 w' => e1 = .returned (.agg #[.int .i64 s, .int .i64 b, .int .i64 (c - c / 8 + s), .int .i64 (d - d / 4 + (c / 8 - s))]) ∧ Below w.heap.size w w' := by
  obtain ⟨⟨k1, k2⟩, ⟨k3, k4⟩, ⟨k5, k6⟩, k7, k8⟩ := rttOk_t hv ha
  have ha' : (a == 0) = false := by simp [ha]
  obtain ⟨h11, h12⟩ := h1
  obtain ⟨h21, h22⟩ := h2
  clear ha hv
  have HC := Lib.hid (fun W => abs_pos _ W hD)
  have q1 : IntKind.i64.wrap (c.tdiv 8) = c / 8 := IntWalk.i64_quo c 8 (by omega)
  have q2 : IntKind.i64.wrap (d.tdiv 4) = d / 4 := IntWalk.i64_quo d 4 (by omega)
  have q3 : IntKind.i64.wrap (c / 8 - s) = c / 8 - s := IntWalk.i64_in _ (by omega)
  have q4 : IntKind.i64.wrap (d - d / 4) = d - d / 4 := IntWalk.i64_in _ (by omega)
  have q5 : IntKind.i64.wrap (d - d / 4 + (c / 8 - s)) = d - d / 4 + (c / 8 - s) := IntWalk.i64_in _ (by omega)
  go_enter Try.func18, Try.ntmps18
  go_wp2
  go_region_held3 (fun W => W.cell? ⟨w.heap.size, 2, none⟩ = some (.int .i64 c) ∧ W.cell? ⟨w.heap.size, 3, none⟩ = some (.int .i64 d)) (simp [go_sem, *]) (first | (go_at_call 19; refine (HC.out _).mono ?_; rintro e1 w' ⟨rfl, rfl⟩))
  clear q1 q2 q3 q4 q5
  go_wp2
  refine bodyPost_ret ?hr rfl ⟨rfl, ?_⟩
  case hr =>
    simp only [results, Try.results18]
    go_simp
  repeat (first | with_reducible exact Below.refl _ _ | with_reducible refine Below.drew ?_ | with_reducible refine Below.setCell ?_ (by simp <;> omega) _ | with_reducible refine Below.alloc ?_ (by simp <;> omega) _)
set_option maxHeartbeats 600000 in
theorem l21_y7 (a b c d s e : Int) (w : World) (hv : rttOk a b c d = true) (ha : a ≠ 0) (h1 : 1 ≤ s ∧ s ≤ 999) (h2 : 0 ≤ e ∧ e ≤ 999) (hB : b ≤ s) (hN : b ≤ s - e) (hD : c / 8 - (s - e) < 0) :
    Calls Try.prog 18 #[.agg #[.int .i64 a, .int .i64 b, .int .i64 c, .int .i64 d], .int .i64 s, .int .i64 e] w fun e1 w' => e1 = .returned (.agg #[.int .i64 s, .int .i64 b, .int .i64 (c - c / 8 + (s - e)), .int .i64 (d - d / 4 + (-(c / 8 - (s - e))))]) ∧ Below w.heap.size w w' := by
  obtain ⟨⟨k1, k2⟩, ⟨k3, k4⟩, ⟨k5, k6⟩, k7, k8⟩ := rttOk_t hv ha
  have ha' : (a == 0) = false := by simp [ha]
  obtain ⟨h11, h12⟩ := h1
  obtain ⟨h21, h22⟩ := h2
  clear ha hv
  have HC := Lib.hid (fun W => abs_neg _ W hD (by omega))
  have q1 : IntKind.i64.wrap (c.tdiv 8) = c / 8 := IntWalk.i64_quo c 8 (by omega)
  have q2 : IntKind.i64.wrap (d.tdiv 4) = d / 4 := IntWalk.i64_quo d 4 (by omega)
  have q3 : IntKind.i64.wrap (c / 8 - (s - e)) = c / 8 - (s - e) := IntWalk.i64_in _ (by omega)
  have q4 : IntKind.i64.wrap (d - d / 4) = d - d / 4 := IntWalk.i64_in _ (by omega)
  have q5 : IntKind.i64.wrap (d - d / 4 + (-(c / 8 - (s - e)))) = d - d / 4 + (-(c / 8 - (s - e))) := IntWalk.i64_in _ (by omega)
  go_enter Try.func18, Try.ntmps18
  go_wp2
  go_region_held3 (fun W => W.cell? ⟨w.heap.size, 2, none⟩ = some (.int .i64 c) ∧ W.cell? ⟨w.heap.size, 3, none⟩ = some (.int .i64 d)) (simp [go_sem, *]) (first | (go_at_call 19; refine (HC.out _).mono ?_; rintro e1 w' ⟨rfl, rfl⟩))
  clear q1 q2 q3 q4 q5
  go_wp2
  refine bodyPost_ret ?hr rfl ⟨rfl, ?_⟩
  case hr =>
    simp only [results, Try.results18]
    go_simp
  repeat (first | with_reducible exact Below.refl _ _ | with_reducible refine Below.drew ?_ | with_reducible refine Below.setCell ?_ (by simp <;> omega) _ | with_reducible refine Below.alloc ?_ (by simp <;> omega) _)
set_option maxHeartbeats 600000 in
theorem l21_y8 (a b c d s e : Int) (w : World) (hv : rttOk a b c d = true) (ha : a ≠ 0) (h1 : 1 ≤ s ∧ s ≤ 999) (h2 : 0 ≤ e ∧ e ≤ 999) (hB : b ≤ s) (hN : b ≤ s - e) (hD : 0 ≤ c / 8 - (s - e)) :
    Calls Try.prog 18 #[.agg #[.int .i64 a, .int .i64 b, .int .i64 c, .int .i64 d], .int .i64 s, .int .i64 e] w fun e1 w' => e1 = .returned (.agg #[.int .i64 s, .int .i64 b, .int .i64 (c - c / 8 + (s - e)), .int .i64 (d - d / 4 + (c / 8 - (s - e)))]) ∧ Below w.heap.size w w' := by
  obtain ⟨⟨k1, k2⟩, ⟨k3, k4⟩, ⟨k5, k6⟩, k7, k8⟩ := rttOk_t hv ha
  have ha' : (a == 0) = false := by simp [ha]
  obtain ⟨h11, h12⟩ := h1
  obtain ⟨h21, h22⟩ := h2
  clear ha hv
  have HC := Lib.hid (fun W => abs_pos _ W hD)
  have q1 : IntKind.i64.wrap (c.tdiv 8) = c / 8 := IntWalk.i64_quo c 8 (by omega)
  have q2 : IntKind.i64.wrap (d.tdiv 4) = d / 4 := IntWalk.i64_quo d 4 (by omega)
  have q3 : IntKind.i64.wrap (c / 8 - (s - e)) = c / 8 - (s - e) := IntWalk.i64_in _ (by omega)
  have q4 : IntKind.i64.wrap (d - d / 4) = d - d / 4 := IntWalk.i64_in _ (by omega)
  have q5 : IntKind.i64.wrap (d - d / 4 + (c / 8 - (s - e))) = d - d / 4 + (c / 8 - (s - e)) := IntWalk.i64_in _ (by omega)
  go_enter Try.func18, Try.ntmps18
  go_wp2
  go_region_held3 (fun W => W.cell? ⟨w.heap.size, 2, none⟩ = some (.int .i64 c) ∧ W.cell? ⟨w.heap.size, 3, none⟩ = some (.int .i64 d)) (simp [go_sem, *]) (first | (go_at_call 19; refine (HC.out _).mono ?_; rintro e1 w' ⟨rfl, rfl⟩))
  clear q1 q2 q3 q4 q5
  go_wp2
  refine bodyPost_ret ?hr rfl ⟨rfl, ?_⟩
  case hr =>
    simp only [results, Try.results18]
    go_simp
  repeat (first | with_reducible exact Below.refl _ _ | with_reducible refine Below.drew ?_ | with_reducible refine Below.setCell ?_ (by simp <;> omega) _ | with_reducible refine Below.alloc ?_ (by simp <;> omega) _)
set_option maxHeartbeats 600000 in
theorem l21_c (a b c d s e : Int) (w : World) (hu : upOk a b c d s e = true) :
    Calls Try.prog 18 #[.agg #[.int .i64 a, .int .i64 b, .int .i64 c, .int .i64 d], .int .i64 s, .int .i64 e] w fun e1 w' => e1 = .returned (.agg #[.int .i64 (rA a b c d s e), .int .i64 (rB a b c d s e), .int .i64 (rC a b c d s e), .int .i64 (rD a b c d s e)]) ∧ Below w.heap.size w w' := by
  obtain ⟨hv, h1, h2⟩ := upOk_t hu
  simp only [rA, rB, rC, rD, hu, if_true]
  by_cases ha : a = 0
  · subst ha
    obtain ⟨rfl, rfl, rfl⟩ := rttOk_a hv rfl
    simp only [if_true]
    exact l21_zero s e w h1
  · simp only [ha, if_false, uC, uD]
    by_cases c1 : s < b
    · have hB : uB b s = s := if_pos c1
      by_cases c2 : s - e < s
      · have hN : uN b s e = s := by unfold uN; rw [hB]; exact if_pos c2
        by_cases c3 : c / 8 - s < 0
        · have hD : (if c / 8 - s < 0 then -(c / 8 - s) else c / 8 - s) = -(c / 8 - s) := if_pos c3
          exact (l21_y1 a b c d s e w hv ha h1 h2 (by omega) (by omega) (by omega)).mono fun e1 w' ⟨he, hb⟩ => ⟨by rw [he, hB, hN, hD, uC_arith, uD_arith], hb⟩
        · have hD : (if c / 8 - s < 0 then -(c / 8 - s) else c / 8 - s) = c / 8 - s := if_neg c3
          exact (l21_y2 a b c d s e w hv ha h1 h2 (by omega) (by omega) (by omega)).mono fun e1 w' ⟨he, hb⟩ => ⟨by rw [he, hB, hN, hD, uC_arith, uD_arith], hb⟩
      · have hN : uN b s e = s - e := by unfold uN; rw [hB]; exact if_neg c2
        by_cases c3 : c / 8 - (s - e) < 0
        · have hD : (if c / 8 - (s - e) < 0 then -(c / 8 - (s - e)) else c / 8 - (s - e)) = -(c / 8 - (s - e)) := if_pos c3
          exact (l21_y3 a b c d s e w hv ha h1 h2 (by omega) (by omega) (by omega)).mono fun e1 w' ⟨he, hb⟩ => ⟨by rw [he, hB, hN, hD, uC_arith, uD_arith], hb⟩
        · have hD : (if c / 8 - (s - e) < 0 then -(c / 8 - (s - e)) else c / 8 - (s - e)) = c / 8 - (s - e) := if_neg c3
          exact (l21_y4 a b c d s e w hv ha h1 h2 (by omega) (by omega) (by omega)).mono fun e1 w' ⟨he, hb⟩ => ⟨by rw [he, hB, hN, hD, uC_arith, uD_arith], hb⟩
    · have hB : uB b s = b := if_neg c1
      by_cases c2 : s - e < b
      · have hN : uN b s e = s := by unfold uN; rw [hB]; exact if_pos c2
        by_cases c3 : c / 8 - s < 0
        · have hD : (if c / 8 - s < 0 then -(c / 8 - s) else c / 8 - s) = -(c / 8 - s) := if_pos c3
          exact (l21_y5 a b c d s e w hv ha h1 h2 (by omega) (by omega) (by omega)).mono fun e1 w' ⟨he, hb⟩ => ⟨by rw [he, hB, hN, hD, uC_arith, uD_arith], hb⟩
        · have hD : (if c / 8 - s < 0 then -(c / 8 - s) else c / 8 - s) = c / 8 - s := if_neg c3
          exact (l21_y6 a b c d s e w hv ha h1 h2 (by omega) (by omega) (by omega)).mono fun e1 w' ⟨he, hb⟩ => ⟨by rw [he, hB, hN, hD, uC_arith, uD_arith], hb⟩
      · have hN : uN b s e = s - e := by unfold uN; rw [hB]; exact if_neg c2
        by_cases c3 : c / 8 - (s - e) < 0
        · have hD : (if c / 8 - (s - e) < 0 then -(c / 8 - (s - e)) else c / 8 - (s - e)) = -(c / 8 - (s - e)) := if_pos c3
          exact (l21_y7 a b c d s e w hv ha h1 h2 (by omega) (by omega) (by omega)).mono fun e1 w' ⟨he, hb⟩ => ⟨by rw [he, hB, hN, hD, uC_arith, uD_arith], hb⟩
        · have hD : (if c / 8 - (s - e) < 0 then -(c / 8 - (s - e)) else c / 8 - (s - e)) = c / 8 - (s - e) := if_neg c3
          exact (l21_y8 a b c d s e w hv ha h1 h2 (by omega) (by omega) (by omega)).mono fun e1 w' ⟨he, hb⟩ => ⟨by rw [he, hB, hN, hD, uC_arith, uD_arith], hb⟩
set_option maxHeartbeats 600000 in
theorem upd_spec_no1 (a b c d s e : Int) (w : World) (hv : rttOk a b c d = false) :
    Calls Try.prog 10 #[.agg #[.int .i64 a, .int .i64 b, .int .i64 c, .int .i64 d], .int .i64 s, .int .i64 e] w fun e1 w' => e1 = .returned (.tuple #[.agg #[.int .i64 0, .int .i64 0, .int .i64 0, .int .i64 0], .bool false]) ∧ Below w.heap.size w w' := by
  go_enter Try.func10, Try.ntmps10
  go_wp2_with fail
  refine (valid_spec _ _ _ _ _).mono ?_
  rintro e1 w1 ⟨rfl, hb1⟩
  have B3 := ((Blk.new w #[.int .i64 a, .int .i64 b, .int .i64 c, .int .i64 d] 24).alloc (Obj.cells #[.int .i64 0, .int .i64 0, .int .i64 0, .int .i64 0] 24)).below hb1
  have B6 := (Blk.new (w.alloc (Obj.cells #[.int .i64 a, .int .i64 b, .int .i64 c, .int .i64 d] 24)) #[.int .i64 0, .int .i64 0, .int .i64 0, .int .i64 0] 24).below hb1
  simp at B6
  have c0 := B3.cell 0 rfl
  have c1 := B3.cell 1 rfl
  have c2 := B3.cell 2 rfl
  have c3 := B3.cell 3 rfl
  have f0 := B3.free 0
  have f1 := B3.free 1
  have f2 := B3.free 2
  have f3 := B3.free 3
  have d0 := B6.cell 0 rfl
  have d1 := B6.cell 1 rfl
  have d2 := B6.cell 2 rfl
  have d3 := B6.cell 3 rfl
  have g0 := B6.free 0
  have g1 := B6.free 1
  have g2 := B6.free 2
  have g3 := B6.free 3
  have hz := B6.lt
  have HB := Lib.hid (bstep (bpush (bpush (Below.refl w.heap.size w) _) _) hb1)
  clear B3 B6 hb1
  go_wp2_with (go_at_call 17; refine (l6In_c _ _ _ _).mono ?_; rintro e1 w' ⟨rfl, rfl⟩)
  refine bodyPost_ret (v := .tuple #[.agg #[.int .i64 0, .int .i64 0, .int .i64 0, .int .i64 0], .bool false]) (by simp [results, Try.results10, go_sem, *] <;> omega) rfl ⟨rfl, ?_⟩
  have HB := HB.out
  repeat (first | with_reducible exact HB | with_reducible refine Below.drew ?_ | with_reducible refine Below.setCell ?_ (by simp <;> omega) _)
set_option maxHeartbeats 600000 in
theorem upd_spec_no2 (a b c d s e : Int) (w : World) (hv : rttOk a b c d = true) (h1 : inB s 1 999 = false) :
    Calls Try.prog 10 #[.agg #[.int .i64 a, .int .i64 b, .int .i64 c, .int .i64 d], .int .i64 s, .int .i64 e] w fun e1 w' => e1 = .returned (.tuple #[.agg #[.int .i64 0, .int .i64 0, .int .i64 0, .int .i64 0], .bool false]) ∧ Below w.heap.size w w' := by
  go_enter Try.func10, Try.ntmps10
  go_wp2_with fail
  refine (valid_spec _ _ _ _ _).mono ?_
  rintro e1 w1 ⟨rfl, hb1⟩
  have B3 := ((Blk.new w #[.int .i64 a, .int .i64 b, .int .i64 c, .int .i64 d] 24).alloc (Obj.cells #[.int .i64 0, .int .i64 0, .int .i64 0, .int .i64 0] 24)).below hb1
  have B6 := (Blk.new (w.alloc (Obj.cells #[.int .i64 a, .int .i64 b, .int .i64 c, .int .i64 d] 24)) #[.int .i64 0, .int .i64 0, .int .i64 0, .int .i64 0] 24).below hb1
  simp at B6
  have c0 := B3.cell 0 rfl
  have c1 := B3.cell 1 rfl
  have c2 := B3.cell 2 rfl
  have c3 := B3.cell 3 rfl
  have f0 := B3.free 0
  have f1 := B3.free 1
  have f2 := B3.free 2
  have f3 := B3.free 3
  have d0 := B6.cell 0 rfl
  have d1 := B6.cell 1 rfl
  have d2 := B6.cell 2 rfl
  have d3 := B6.cell 3 rfl
  have g0 := B6.free 0
  have g1 := B6.free 1
  have g2 := B6.free 2
  have g3 := B6.free 3
  have hz := B6.lt
  have HB := Lib.hid (bstep (bpush (bpush (Below.refl w.heap.size w) _) _) hb1)
  clear B3 B6 hb1
  go_wp2_with (go_at_call 17; refine (l6In_c _ _ _ _).mono ?_; rintro e1 w' ⟨rfl, rfl⟩)
  refine bodyPost_ret (v := .tuple #[.agg #[.int .i64 0, .int .i64 0, .int .i64 0, .int .i64 0], .bool false]) (by simp [results, Try.results10, go_sem, *] <;> omega) rfl ⟨rfl, ?_⟩
  have HB := HB.out
  repeat (first | with_reducible exact HB | with_reducible refine Below.drew ?_ | with_reducible refine Below.setCell ?_ (by simp <;> omega) _)
set_option maxHeartbeats 600000 in
theorem upd_spec_no3 (a b c d s e : Int) (w : World) (hv : rttOk a b c d = true) (h1 : inB s 1 999 = true) (h2 : inB e 0 999 = false) :
    Calls Try.prog 10 #[.agg #[.int .i64 a, .int .i64 b, .int .i64 c, .int .i64 d], .int .i64 s, .int .i64 e] w fun e1 w' => e1 = .returned (.tuple #[.agg #[.int .i64 0, .int .i64 0, .int .i64 0, .int .i64 0], .bool false]) ∧ Below w.heap.size w w' := by
  go_enter Try.func10, Try.ntmps10
  go_wp2_with fail
  refine (valid_spec _ _ _ _ _).mono ?_
  rintro e1 w1 ⟨rfl, hb1⟩
  have B3 := ((Blk.new w #[.int .i64 a, .int .i64 b, .int .i64 c, .int .i64 d] 24).alloc (Obj.cells #[.int .i64 0, .int .i64 0, .int .i64 0, .int .i64 0] 24)).below hb1
  have B6 := (Blk.new (w.alloc (Obj.cells #[.int .i64 a, .int .i64 b, .int .i64 c, .int .i64 d] 24)) #[.int .i64 0, .int .i64 0, .int .i64 0, .int .i64 0] 24).below hb1
  simp at B6
  have c0 := B3.cell 0 rfl
  have c1 := B3.cell 1 rfl
  have c2 := B3.cell 2 rfl
  have c3 := B3.cell 3 rfl
  have f0 := B3.free 0
  have f1 := B3.free 1
  have f2 := B3.free 2
  have f3 := B3.free 3
  have d0 := B6.cell 0 rfl
  have d1 := B6.cell 1 rfl
  have d2 := B6.cell 2 rfl
  have d3 := B6.cell 3 rfl
  have g0 := B6.free 0
  have g1 := B6.free 1
  have g2 := B6.free 2
  have g3 := B6.free 3
  have hz := B6.lt
  have HB := Lib.hid (bstep (bpush (bpush (Below.refl w.heap.size w) _) _) hb1)
  clear B3 B6 hb1
  go_wp2_with (go_at_call 17; refine (l6In_c _ _ _ _).mono ?_; rintro e1 w' ⟨rfl, rfl⟩)
  refine bodyPost_ret (v := .tuple #[.agg #[.int .i64 0, .int .i64 0, .int .i64 0, .int .i64 0], .bool false]) (by simp [results, Try.results10, go_sem, *] <;> omega) rfl ⟨rfl, ?_⟩
  have HB := HB.out
  repeat (first | with_reducible exact HB | with_reducible refine Below.drew ?_ | with_reducible refine Below.setCell ?_ (by simp <;> omega) _)
set_option maxHeartbeats 600000 in
theorem upd_spec_yes (a b c d s e : Int) (w : World) (hu : upOk a b c d s e = true) :
    Calls Try.prog 10 #[.agg #[.int .i64 a, .int .i64 b, .int .i64 c, .int .i64 d], .int .i64 s, .int .i64 e] w fun e1 w' => e1 = .returned (.tuple #[.agg #[.int .i64 (rA a b c d s e), .int .i64 (rB a b c d s e), .int .i64 (rC a b c d s e), .int .i64 (rD a b c d s e)], .bool true]) ∧ Below w.heap.size w w' := by
  obtain ⟨hv, h1, h2⟩ := upOk_t hu
  have i1 := inB_t h1
  have i2 := inB_t h2
  have HC := Lib.hid (fun W => l21_c a b c d s e W hu)
  clear h1 h2 hu
  go_enter Try.func10, Try.ntmps10
  go_wp2_with fail
  refine (valid_spec _ _ _ _ _).mono ?_
  rintro e1 w1 ⟨rfl, hb1⟩
  have B3 := ((Blk.new w #[.int .i64 a, .int .i64 b, .int .i64 c, .int .i64 d] 24).alloc (Obj.cells #[.int .i64 0, .int .i64 0, .int .i64 0, .int .i64 0] 24)).below hb1
  have B6 := (Blk.new (w.alloc (Obj.cells #[.int .i64 a, .int .i64 b, .int .i64 c, .int .i64 d] 24)) #[.int .i64 0, .int .i64 0, .int .i64 0, .int .i64 0] 24).below hb1
  simp at B6
  have c0 := B3.cell 0 rfl
  have c1 := B3.cell 1 rfl
  have c2 := B3.cell 2 rfl
  have c3 := B3.cell 3 rfl
  have f0 := B3.free 0
  have f1 := B3.free 1
  have f2 := B3.free 2
  have f3 := B3.free 3
  have d0 := B6.cell 0 rfl
  have d1 := B6.cell 1 rfl
  have d2 := B6.cell 2 rfl
  have d3 := B6.cell 3 rfl
  have g0 := B6.free 0
  have g1 := B6.free 1
  have g2 := B6.free 2
  have g3 := B6.free 3
  have hz := B6.lt
  have HB := Lib.hid (bstep (bpush (bpush (Below.refl w.heap.size w) _) _) hb1)
  have B6H := Lib.hid B6
  clear B3 B6 hb1
  clear d0 d1 d2 d3 g0 g1 g2 g3
  go_wp2_with (go_at_call 17; refine (l6In_c _ _ _ _).mono ?_; rintro e1 w' ⟨rfl, rfl⟩)
  refine (HC.out _).mono ?_
  rintro e1 w2 ⟨rfl, hb2⟩
  have B6 : Blk w1 (w.heap.size + 1) #[.int .i64 0, .int .i64 0, .int .i64 0, .int .i64 0] 24 := B6H.out
  have B6 := B6.below hb2
  have kc0 := B6.cell 0 rfl
  have kc1 := B6.cell 1 rfl
  have kc2 := B6.cell 2 rfl
  have kc3 := B6.cell 3 rfl
  have kf0 := B6.free 0
  have kf1 := B6.free 1
  have kf2 := B6.free 2
  have kf3 := B6.free 3
  have HB := bstep HB.out hb2
  have HB := Lib.hid HB
  clear B6 hb2 HC
  go_wp2_with fail
  refine bodyPost_ret ?hr rfl ⟨rfl, ?_⟩
  case hr =>
    simp only [results, Try.results10]
    go_simp
  have HB := HB.out
  repeat (first | with_reducible exact HB | with_reducible refine Below.drew ?_ | with_reducible refine Below.setCell ?_ (by simp <;> omega) _)
set_option maxHeartbeats 600000 in
theorem upd_spec (a b c d s e : Int) (w : World) :
    Calls Try.prog 10 #[.agg #[.int .i64 a, .int .i64 b, .int .i64 c, .int .i64 d], .int .i64 s, .int .i64 e] w fun e1 w' => e1 = .returned (.tuple #[.agg #[.int .i64 (rA a b c d s e), .int .i64 (rB a b c d s e), .int .i64 (rC a b c d s e), .int .i64 (rD a b c d s e)], .bool (upOk a b c d s e)]) ∧ Below w.heap.size w w' := by
  cases hu : upOk a b c d s e
  · simp only [rA, rB, rC, rD, hu, Bool.false_eq_true, if_false]
    cases hv : rttOk a b c d
    · exact upd_spec_no1 a b c d s e w hv
    · cases h1 : inB s 1 999
      · exact upd_spec_no2 a b c d s e w hv h1
      · cases h2 : inB e 0 999
        · exact upd_spec_no3 a b c d s e w hv h1 h2
        · simp [upOk, hv, h1, h2] at hu
  · exact upd_spec_yes a b c d s e w hu
end Go.Proofs.Ythaoiaphgmaadaa
