/-
  The types of the program as the walk knows them, checked against the program.
-/
import Derived.Test.YtgjoeoojplbhpaaProg
import Derived.Test.YtgjoeoojplbhpaaAw21
namespace Go.Proofs.Ytgjoeoojplbhpaa
open Go.Aw

def tbl : List (Nat × TI) := [
  (2, ⟨1, 8, .scalar, [.int .i64 0], []⟩),
  (3, ⟨1, 8, .scalar, [.int .i64 0], []⟩),
  (4, ⟨1, 1, .scalar, [.bool false], []⟩),
  (5, ⟨1, 1, .scalar, [.int .u8 0], []⟩),
  (9, ⟨1, 16, .scalar, [.str ByteArray.empty], []⟩),
  (22, ⟨1, 24, .slice 53, [.lst 7 [] true], []⟩),
  (23, ⟨1, 24, .slice 25, [.lst 3 [] true], []⟩),
  (25, ⟨3, 40, .struct [(0, 3), (1, 3), (2, 23)], [.int .i64 0, .int .i64 0, .lst 3 [] true], [(0, 1), (1, 1), (2, 1)]⟩),
  (27, ⟨6, 96, .struct [(0, 3), (1, 22), (2, 23), (3, 25)], [.int .i64 0, .lst 7 [] true, .lst 3 [] true, .int .i64 0, .int .i64 0, .lst 3 [] true], [(0, 1), (1, 1), (2, 1), (3, 3)]⟩),
  (28, ⟨1, 24, .slice 36, [.lst 10 [] true], []⟩),
  (36, ⟨10, 144, .struct [(0, 3), (1, 25), (4, 23), (5, 3), (6, 23), (7, 25)], [.int .i64 0, .int .i64 0, .int .i64 0, .lst 3 [] true, .lst 3 [] true, .int .i64 0, .lst 3 [] true, .int .i64 0, .int .i64 0, .lst 3 [] true], [(0, 1), (1, 3), (4, 1), (5, 1), (6, 1), (7, 3)]⟩),
  (39, ⟨1, 8, .scalar, [.int .i64 0], []⟩),
  (45, ⟨1, 24, .slice 66, [.lst 6 [] true], []⟩),
  (46, ⟨1, 24, .slice 27, [.lst 6 [] true], []⟩),
  (48, ⟨3, 56, .struct [(0, 45), (1, 46), (2, 3)], [.lst 6 [] true, .lst 6 [] true, .int .i64 0], [(0, 1), (1, 1), (2, 1)]⟩),
  (53, ⟨7, 104, .struct [(0, 4), (1, 25), (4, 23), (5, 3), (6, 23)], [.bool false, .int .i64 0, .int .i64 0, .lst 3 [] true, .lst 3 [] true, .int .i64 0, .lst 3 [] true], [(0, 1), (1, 3), (4, 1), (5, 1), (6, 1)]⟩),
  (62, ⟨10, 144, .struct [(0, 3), (1, 25), (4, 25), (7, 48)], [.int .i64 0, .int .i64 0, .int .i64 0, .lst 3 [] true, .int .i64 0, .int .i64 0, .lst 3 [] true, .lst 6 [] true, .lst 6 [] true, .int .i64 0], [(0, 1), (1, 3), (4, 3), (7, 3)]⟩),
  (66, ⟨6, 80, .struct [(0, 22), (1, 3), (2, 4), (3, 25)], [.lst 7 [] true, .int .i64 0, .bool false, .int .i64 0, .int .i64 0, .lst 3 [] true], [(0, 1), (1, 1), (2, 1), (3, 3)]⟩),
  (24, ⟨3, 40, .struct [(0, 3), (1, 3), (2, 23)], [.int .i64 0, .int .i64 0, .lst 3 [] true], [(0, 1), (1, 1), (2, 1)]⟩),
  (26, ⟨6, 96, .struct [(0, 3), (1, 22), (2, 23), (3, 25)], [.int .i64 0, .lst 7 [] true, .lst 3 [] true, .int .i64 0, .int .i64 0, .lst 3 [] true], [(0, 1), (1, 1), (2, 1), (3, 3)]⟩),
  (35, ⟨10, 144, .struct [(0, 3), (1, 25), (4, 23), (5, 3), (6, 23), (7, 25)], [.int .i64 0, .int .i64 0, .int .i64 0, .lst 3 [] true, .lst 3 [] true, .int .i64 0, .lst 3 [] true, .int .i64 0, .int .i64 0, .lst 3 [] true], [(0, 1), (1, 3), (4, 1), (5, 1), (6, 1), (7, 3)]⟩),
  (47, ⟨3, 56, .struct [(0, 45), (1, 46), (2, 3)], [.lst 6 [] true, .lst 6 [] true, .int .i64 0], [(0, 1), (1, 1), (2, 1)]⟩),
  (52, ⟨7, 104, .struct [(0, 4), (1, 25), (4, 23), (5, 3), (6, 23)], [.bool false, .int .i64 0, .int .i64 0, .lst 3 [] true, .lst 3 [] true, .int .i64 0, .lst 3 [] true], [(0, 1), (1, 3), (4, 1), (5, 1), (6, 1)]⟩)]

def look : List (Nat × TI) → Nat → Option TI
  | [], _ => none
  | (k, i) :: l, t => match Nat.beq t k with
    | true => some i
    | false => look l t
def ty : Ty := look tbl
theorem look_ok {P : Program} : ∀ {l : List (Nat × TI)}, l.all (fun p => tiOK P p.1 p.2) = true → TyOK P (look l)
  | [], _, t, i, h => by cases h
  | (k, j) :: l, hl, t, i, h => by
    simp only [List.all_cons, Bool.and_eq_true] at hl
    unfold look at h
    split at h
    · rename_i e
      obtain rfl := Option.some.inj h
      rw [Nat.eq_of_beq_eq_true e]; exact hl.1
    · exact look_ok hl.2 t i h
theorem hty : TyOK Try.prog ty := look_ok (by kernel_rfl)

end Go.Proofs.Ytgjoeoojplbhpaa
