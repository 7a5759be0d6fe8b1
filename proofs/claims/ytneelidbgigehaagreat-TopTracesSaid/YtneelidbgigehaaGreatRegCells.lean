/- The chapter's list of the cells of a region. -/
import Derived.Test.YtneelidbgigehaaGreatRegMathB
import Derived.Test.YtneelidbgigehaaGreatRegCount
import Derived.Test.YtneelidbgigehaaGreatRegKitA
namespace Go.Proofs.YtneelidbgigehaaGreat
set_option linter.unusedSimpArgs false
set_option linter.unusedVariables false
open Go.RowKit Runs Reg
attribute [local go_sem] Kin.cell Kin.frozen Kin.lt0 Kin.lt1 Kin.lt2 Kin.lt3 run_mkf
def encPt (p : Int × Int) : List Value := [.int .i64 p.1, .int .i64 p.2]
theorem encPt_len (p : Int × Int) : (encPt p).length = 2 := rfl
theorem oneP : OneC encPt := fun x u hu => by simp [encPt] at hu; rcases hu with rfl | rfl <;> rfl
theorem infoCell : (Tryz.prog.info? 47).map (fun i => (i.zero, i.size, i.bytes)) = some (some (.agg #[.int .i64 0, .int .i64 0]), 2, 16) := by kernel_rfl
def OwnC (base : Nat) (W : World) (v : Value) (l : List (Int × Int)) : Prop := W.ownsRow base 47 2 v l.length (l.flatMap encPt)
theorem OwnC.own {base : Nat} {W : World} {v : Value} {l : List (Int × Int)} (h : OwnC base W v l) : W.ownsRow base 47 2 v l.length (l.flatMap encPt) := h
theorem OwnC.nil {base : Nat} {W : World} : OwnC base W (.slice none 0 0) [] := World.ownsRow_nil _ _ _ _
theorem OwnC.of {base : Nat} {W : World} {v : Value} {l : List (Int × Int)} (h : W.ownsRow base 47 2 v l.length (l.flatMap encPt)) : OwnC base W v l := h
end Go.Proofs.YtneelidbgigehaaGreat
