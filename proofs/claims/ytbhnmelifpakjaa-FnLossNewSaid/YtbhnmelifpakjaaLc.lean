/- A loss detection laid anew, compared, measured. -/
import Derived.Test.YtbhnmelifpakjaaLz
namespace Go.Proofs.Ytbhnmelifpakjaa
open Go.RowKit
set_option linter.unusedVariables false

theorem toLoss_c (nx lg : Int) (a : Option Addr) (n cap : Nat) (l : List (Int × Int × Int)) (w : World) (hl : l.length = n) (hn : n ≤ 1048576) (S : Sl 3 w w.heap.size a n (pkG l)) :
    Calls Try.prog 22 #[.agg #[.int .i64 nx, .slice a n cap, .int .i64 lg]] w fun e w' => ∃ b, e = .returned (.agg #[.int .i64 nx, .slice (some ⟨b, 0, none⟩) n n, .int .i64 lg]) ∧ Below w.heap.size w w' ∧ w.heap.size ≤ b ∧ Pks w' b l := by
  have hb0 := bpush (bpush (bpush (Below.refl w.heap.size w) (Obj.cells #[.int .i64 nx, .slice a n cap, .int .i64 lg] 44)) (Obj.cells #[.int .i64 0, .slice none 0 0, .int .i64 0] 31)) (Obj.cells #[.int .i64 nx, .slice none 0 0, .int .i64 0] 31)
  have S1 := Lib.hid ((S.below hb0).mono hb0.size)
  clear S
  go_enter Try.func22, Try.ntmps22
  go_wp2_with fail
  refine (toPkS_c _ _ _ l _ hl hn S1.out).mono ?_
  rintro e w1 ⟨rfl, hb1, hp⟩
  have B0 := (((Blk.new w #[.int .i64 nx, .slice a n cap, .int .i64 lg] 44).alloc (Obj.cells #[.int .i64 0, .slice none 0 0, .int .i64 0] 31)).alloc (Obj.cells #[.int .i64 nx, .slice none 0 0, .int .i64 0] 31)).below hb1
  have B1 := ((Blk.new (w.alloc (Obj.cells #[.int .i64 nx, .slice a n cap, .int .i64 lg] 44)) #[.int .i64 0, .slice none 0 0, .int .i64 0] 31).alloc (Obj.cells #[.int .i64 nx, .slice none 0 0, .int .i64 0] 31)).below hb1
  have B2 := (Blk.new ((w.alloc (Obj.cells #[.int .i64 nx, .slice a n cap, .int .i64 lg] 44)).alloc (Obj.cells #[.int .i64 0, .slice none 0 0, .int .i64 0] 31)) #[.int .i64 nx, .slice none 0 0, .int .i64 0] 31).below hb1
  simp only [World.size_alloc] at B0 B1 B2 hp
  have hbw := bstep hb0 hb1
  have a2 := B0.cell 2 rfl
  have b0 := B1.cell 0 rfl
  have b1 := B1.cell 1 rfl
  have b2 := B1.cell 2 rfl
  have c0 := B2.cell 0 rfl
  have c1 := B2.cell 1 rfl
  have c2 := B2.cell 2 rfl
  have f0 := B1.free 0
  have f1 := B1.free 1
  have f2 := B1.free 2
  have g0 := B2.free 0
  have g1 := B2.free 1
  have g2 := B2.free 2
  go_wp2_with fail
  refine bodyPost_ret (v := .agg #[.int .i64 nx, .slice (some ⟨w.heap.size + 1 + 1 + 1, 0, none⟩) n n, .int .i64 lg]) ?_ rfl ⟨w.heap.size + 1 + 1 + 1, rfl, ?_, by omega, ?_⟩
  · simp only [results, Try.results22]
    go_simp
  · repeat (first | with_reducible exact hbw | with_reducible refine Below.setCell ?_ (by simp <;> omega) _)
  · exact ((((hp.other (by omega) _ _).other (by omega) _ _).other (by omega) _ _).other (by omega) _ _).other (by omega) _ _

theorem eqLoss_c (nx lg : Int) (a a' : Option Addr) (n cap cap' : Nat) (l : List (Int × Int × Int)) (w : World) (S : Sl 3 w w.heap.size a n (pkG l)) (S' : Sl 3 w w.heap.size a' n (pkG l)) :
    Calls Try.prog 17 #[.agg #[.int .i64 nx, .slice a n cap, .int .i64 lg], .agg #[.int .i64 nx, .slice a' n cap', .int .i64 lg]] w fun e w' => e = .returned (.bool true) ∧ Below w.heap.size w w' := by
  have hb0 := bpush (bpush (Below.refl w.heap.size w) (Obj.cells #[.int .i64 nx, .slice a n cap, .int .i64 lg] 31)) (Obj.cells #[.int .i64 nx, .slice a' n cap', .int .i64 lg] 31)
  have S1 := Lib.hid ((S.below hb0).mono hb0.size)
  have S2 := Lib.hid ((S'.below hb0).mono hb0.size)
  clear S S'
  go_enter Try.func17, Try.ntmps17
  go_wp2_with fail
  refine (eqPkS_c _ _ _ _ _ l _ S1.out S2.out).mono ?_
  rintro e w1 ⟨rfl, hb1⟩
  have B1 := ((Blk.new w #[.int .i64 nx, .slice a n cap, .int .i64 lg] 31).alloc (Obj.cells #[.int .i64 nx, .slice a' n cap', .int .i64 lg] 31)).below hb1
  have B2 := (Blk.new (w.alloc (Obj.cells #[.int .i64 nx, .slice a n cap, .int .i64 lg] 31)) #[.int .i64 nx, .slice a' n cap', .int .i64 lg] 31).below hb1
  have c2 := B1.cell 2 rfl
  have d2 := B2.cell 2 rfl
  simp only [World.size_alloc] at d2
  go_wp2_with fail
  go_ret
  exact ⟨rfl, bstep hb0 hb1⟩

def szF (left : Int) (n : Nat) : Int := if left < (n : Int) then -1 else left - n
theorem szLoss_c (nx lg left : Int) (a : Option Addr) (n cap : Nat) (w : World) (h0 : 0 ≤ left) (h1 : left ≤ 1048576) (hn : n ≤ 9223372036854775807) :
    Calls Try.prog 20 #[.agg #[.int .i64 nx, .slice a n cap, .int .i64 lg], .int .i64 left] w fun e w' => e = .returned (.int .i64 (szF left n)) ∧ Below w.heap.size w w' := by
  by_cases h : left < (n : Int)
  · have E : szF left n = -1 := by unfold szF; rw [if_pos h]
    rw [E]
    go_enter Try.func20, Try.ntmps20
    go_wp2
    go_ret
    exact ⟨rfl, bpush (Below.refl _ _) _⟩
  · have E : szF left n = left - n := by unfold szF; rw [if_neg h]
    rw [E]
    go_enter Try.func20, Try.ntmps20
    go_wp2
    go_ret
    exact ⟨rfl, bpush (Below.refl _ _) _⟩
end Go.Proofs.Ytbhnmelifpakjaa
