/-
  Contracts of strings.IndexByte, kind.Of and porismlaw01.wakes over this seat's translation.
-/
import Derived.Test.YtfjkojebpbnecaaPKindExactx
import Derived.Lib.Bytealg
import Derived.Laws.Externs
import Derived.WalkSpells
import Derived.WalkLawsBesides
namespace Go.Proofs.Ytfjkojebpbnecaa
open Go.RowKit Go.Proofs.YtfjkojebpbnecaaW.PrintWords Go.Proofs.YtfjkojebpbnecaaW.PrintLast Go.Proofs.YtfjkojebpbnecaaW.PrintMore

set_option maxHeartbeats 400000 in
theorem lite_any (s : ByteArray) (c : Int) (w : World) :
    Calls Try.prog 20 #[.string s, .int .u8 c] w fun e w' => e = .returned (.int .i64 (Lib.indexByte s.data.toList c.toNat.toUInt8)) ∧ w = w' := by
  go_enter Try.func20, Try.ntmps20
  go_wp2
  rw [run_callFunc_extern Try.func22 (by kernel_rfl) (by kernel_rfl) (by kernel_rfl) (e := Extern.BytealgIndexByte.indexByte) (by kernel_rfl), Lib.run_indexByteString]
  simp only [Result.andThen]
  rw [Oper.upon_value]
  go_wp2
  go_ret
  exact ⟨rfl, rfl⟩

set_option maxHeartbeats 400000 in
theorem index_any (s : ByteArray) (c : Int) (w : World) :
    Calls Try.prog 17 #[.string s, .int .u8 c] w fun e w' => e = .returned (.int .i64 (Lib.indexByte s.data.toList c.toNat.toUInt8)) ∧ w = w' := by
  go_enter Try.func17, Try.ntmps17
  go_wp2_with (go_at_call 20; refine (lite_any _ _ _).mono ?_; rintro e w' ⟨rfl, rfl⟩)
  go_ret
  exact ⟨rfl, rfl⟩

/-- What kind.Of answers. -/
def ofB (c : Int) : Int := Lib.indexByte [118, 117, 99, 112, 108, 97, 115, 111, 102, 103, 105, 114, 106] c.toNat.toUInt8

def letB : ByteArray := ⟨#[118, 117, 99, 112, 108, 97, 115, 111, 102, 103, 105, 114, 106]⟩

theorem index_let (c : Int) (w : World) :
    Calls Try.prog 17 #[.string (⟨#[118, 117, 99, 112, 108, 97, 115, 111, 102, 103, 105, 114, 106]⟩ : ByteArray), .int .u8 c] w fun e w' => e = .returned (.int .i64 (ofB c)) ∧ w = w' :=
  index_any _ _ _

/-- What kind.Of answers. -/
def ofV (c : Int) : Value := if ofB c < 0 then .tuple #[.int .i64 0, .bool false] else .tuple #[.int .i64 (1 + ofB c), .bool true]

set_option maxHeartbeats 400000 in
theorem of_any (c : Int) (w : World) (h' : ofB c < 13) :
    Calls Try.prog 7 #[.int .u8 c] w fun e w' => e = .returned (ofV c) ∧ w = w' := by
  by_cases h : ofB c < 0
  · rw [show ofV c = .tuple #[.int .i64 0, .bool false] from if_pos h]
    go_enter Try.func7, Try.ntmps7
    go_wp2_with (go_at_call 17; refine (index_let _ _).mono ?_; rintro e w' ⟨rfl, rfl⟩)
    go_ret2
    exact ⟨rfl, rfl⟩
  · rw [show ofV c = .tuple #[.int .i64 (1 + ofB c), .bool true] from if_neg h]
    have h0 : 0 ≤ ofB c := by omega
    go_enter Try.func7, Try.ntmps7
    go_wp2_with (go_at_call 17; refine (index_let _ _).mono ?_; rintro e w' ⟨rfl, rfl⟩)
    go_ret2
    exact ⟨rfl, rfl⟩

end Go.Proofs.Ytfjkojebpbnecaa
