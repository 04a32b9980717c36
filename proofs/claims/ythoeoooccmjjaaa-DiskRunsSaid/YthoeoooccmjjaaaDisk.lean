import Derived.Test.YthoeoooccmjjaaaProg
import Derived.Below
import Derived.Deep.Draws
import Derived.Deep.AppendLies
import Derived.Maps.AppendAt
import Derived.OwnWalk
import Derived.Laws.BytesArg
import Derived.Laws.MakeOwn
import Derived.Laws.OwnMore
import Derived.Deep.OwnRows
import Derived.Tactics
import Derived.Lib.ConvBytes
import Derived.Laws.Slices
import Derived.WalkKit
import Derived.KernelRfl
import Derived.RowKit3
import Derived.Deep.LoopGhost
import Derived.Deep.QuietTactic
import Derived.BigQuiet
import Derived.WideLaws
import Derived.Deep.DeepCutAuto
import Derived.Deep.CutBlock
import Derived.Deep.RegionHeld3
import Derived.Laws.Rows
import Derived.Lib.AppendStr
import Derived.ArgAppend
import Derived.Laws.IdiomCopy
import Derived.OrdersHeld
import Derived.Laws.BitsLemmas
import Derived.RowKit
import Derived.Test.YthoeoooccmjjaaaWWords
import Derived.Test.YthoeoooccmjjaaaWLast
import Derived.Test.YthoeoooccmjjaaaWTab
import Derived.Test.YthoeoooccmjjaaaWFour
import Derived.Test.YthoeoooccmjjaaaWQPut
import Derived.Test.YthoeoooccmjjaaaWApart
import Derived.Test.YthoeoooccmjjaaaWArr
import Derived.Test.YthoeoooccmjjaaaWZeros
import Derived.Test.YthoeoooccmjjaaaWFoot
import Derived.Test.YthoeoooccmjjaaaWKept
import Derived.Test.YthoeoooccmjjaaaWShare
import Derived.Test.YthoeoooccmjjaaaWN
import Derived.Test.YthoeoooccmjjaaaWFootNe
import Derived.Test.YthoeoooccmjjaaaWAt
import Derived.Test.YthoeoooccmjjaaaWEqStruct
import Derived.Test.YthoeoooccmjjaaaWRepsOne
import Derived.Test.YthoeoooccmjjaaaWInv
import Derived.Test.YthoeoooccmjjaaaWInvWords
import Derived.Test.YthoeoooccmjjaaaWGuard
import Derived.Test.YthoeoooccmjjaaaWNEv
import Derived.Test.YthoeoooccmjjaaaWMore
namespace Go.Proofs.Ythoeoooccmjjaaa.Dk
open Go.RowKit Go.Proofs.YthoeoooccmjjaaaW.PrintWords Go.Proofs.YthoeoooccmjjaaaW.PrintLast Go.Proofs.YthoeoooccmjjaaaW.PrintMore
attribute [local go_sem] max2_int min2_int max_two min_two max_three min_three max_four min_four
set_option linter.unusedVariables false
set_option linter.unusedSimpArgs false
/-- A disk at g: its data's slice, how many are safe, the room, the fuse, off. -/
def At (W : World) (g : Nat) (v : Value) (s r f : Int) (o : Bool) : Prop := W.heap[g]? = some (.cells #[v, .int .i64 s, .int .i64 r, .int .i64 f, .bool o] 49 (0, 0))
section
variable {W : World} {g : Nat} {v : Value} {s r f : Int} {o : Bool}
theorem At.c0 (h : At W g v s r f o) : W.cell? ⟨g, 0, none⟩ = some v := cell_of_row W g 0 _ _ _ h
theorem At.c1 (h : At W g v s r f o) : W.cell? ⟨g, 1, none⟩ = some (.int .i64 s) := cell_of_row W g 1 _ _ _ h
theorem At.c2 (h : At W g v s r f o) : W.cell? ⟨g, 2, none⟩ = some (.int .i64 r) := cell_of_row W g 2 _ _ _ h
theorem At.c3 (h : At W g v s r f o) : W.cell? ⟨g, 3, none⟩ = some (.int .i64 f) := cell_of_row W g 3 _ _ _ h
theorem At.c4 (h : At W g v s r f o) : W.cell? ⟨g, 4, none⟩ = some (.bool o) := cell_of_row W g 4 _ _ _ h
end
set_option maxHeartbeats 8000000 in
theorem limit (g : Nat) (v : Value) (s r f n : Int) (o : Bool) (w : World) (h : At w g v s r f o) :
    Calls Try.prog 23 #[.pointer (some ⟨g, 0, none⟩), .int .i64 n] w fun e w' => e = .returned (.tuple #[]) ∧ w' = w.setCell ⟨g, 2, none⟩ (.int .i64 (mx 0 (mn n 60000))) := by
  have h2 := h.c2
  have f2 := blk_frozen h 2
  go_enter Try.func23, Try.ntmps23
  go_wp2
  all_goals first | go_end0 | ((try simp only [Exit.inBlock, Exit.then]); refine bodyPost_ret (results_none rfl _ _ _) rfl ?_)
  all_goals exact ⟨rfl, congrArg (fun z => World.setCell w _ (Value.int IntKind.i64 z)) (by unfold mx; (try unfold mn); (repeat' split) <;> omega)⟩
set_option maxHeartbeats 8000000 in
theorem safe (g : Nat) (v : Value) (s r f : Int) (o : Bool) (w : World) (h : At w g v s r f o) :
    Calls Try.prog 13 #[.pointer (some ⟨g, 0, none⟩)] w fun e w' => e = .returned (.int .i64 s) ∧ w' = w := by
  have h1 := h.c1
  go_enter Try.func13, Try.ntmps13
  go_wp2
  go_ret
  exact ⟨rfl, rfl⟩
set_option maxHeartbeats 8000000 in
theorem off (g : Nat) (v : Value) (s r f : Int) (o : Bool) (w : World) (h : At w g v s r f o) :
    Calls Try.prog 14 #[.pointer (some ⟨g, 0, none⟩)] w fun e w' => e = .returned (.bool o) ∧ w' = w := by
  have h4 := h.c4
  go_enter Try.func14, Try.ntmps14
  go_wp2
  go_ret
  exact ⟨rfl, rfl⟩
set_option maxHeartbeats 8000000 in
theorem fuse (g : Nat) (v : Value) (s r f n : Int) (o : Bool) (w : World) (h : At w g v s r f o) :
    Calls Try.prog 15 #[.pointer (some ⟨g, 0, none⟩), .int .i64 n] w fun e w' => e = .returned (.tuple #[]) ∧ w' = w.setCell ⟨g, 3, none⟩ (.int .i64 (mx (-1) n)) := by
  have h3 := h.c3
  have f3 := blk_frozen h 3
  go_enter Try.func15, Try.ntmps15
  go_wp2
  all_goals first | go_end0 | ((try simp only [Exit.inBlock, Exit.then]); refine bodyPost_ret (results_none rfl _ _ _) rfl ?_)
  all_goals exact ⟨rfl, congrArg (fun z => World.setCell w _ (Value.int IntKind.i64 z)) (by unfold mx; (try unfold mn); (repeat' split) <;> omega)⟩
set_option maxHeartbeats 8000000 in
theorem sync (g : Nat) (A : Option Addr) (n c : Nat) (s r f : Int) (o : Bool) (w : World) (h : At w g (.slice A n c) s r f o) :
    Calls Try.prog 16 #[.pointer (some ⟨g, 0, none⟩)] w fun e w' => e = .returned (.tuple #[]) ∧ w' = if o = true then w else w.setCell ⟨g, 1, none⟩ (.int .i64 n) := by
  have h0 := h.c0
  have h4 := h.c4
  have h1 := h.c1
  have f1 := blk_frozen h 1
  cases o
  · go_enter Try.func16, Try.ntmps16
    go_wp2
    first | go_end0 | ((try simp only [Exit.inBlock, Exit.then]); refine bodyPost_ret (results_none rfl _ _ _) rfl ?_)
    exact ⟨rfl, rfl⟩
  · go_enter Try.func16, Try.ntmps16
    go_wp2
    first | go_end0 | ((try simp only [Exit.inBlock, Exit.then]); refine bodyPost_ret (results_none rfl _ _ _) rfl ?_)
    exact ⟨rfl, rfl⟩
set_option maxHeartbeats 8000000 in
theorem new (n : Int) (w : World) :
    Calls Try.prog 10 #[.int .i64 n] w fun e w' => e = .returned (.pointer (some ⟨w.heap.size, 0, none⟩)) ∧ w' = w.alloc (.cells #[.slice none 0 0, .int .i64 0, .int .i64 (mx 0 (mn n 60000)), .int .i64 (-1), .bool false] 49) := by
  have h : At (w.alloc (.cells #[.slice none 0 0, .int .i64 0, .int .i64 0, .int .i64 (-1), .bool false] 49)) w.heap.size (.slice none 0 0) 0 0 (-1) false := blk_new w _
  go_enter Try.func10, Try.ntmps10
  go_wp2_with (first | ((with_reducible refine gate_callee (f := 23) rfl ?_); refine goesL_ (some 8) rfl rfl Try.func23 (by kernel_rfl) rfl #[.pointer (some ⟨w.heap.size, 0, none⟩), .int .i64 n] rfl (by (try simp only [List.map_toArray, List.map_cons, List.map_nil]); first | done | rfl) ?_; (with_reducible refine (limit _ _ _ _ _ n _ _ h).mono ?_); rintro e w1 ⟨rfl, rfl⟩; refine ⟨_, rfl, ?_⟩))
  go_ret
  exact ⟨rfl, rfl⟩
end Go.Proofs.Ythoeoooccmjjaaa.Dk
