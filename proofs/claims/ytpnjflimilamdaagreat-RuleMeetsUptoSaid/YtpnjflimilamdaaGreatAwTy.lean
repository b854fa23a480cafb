/-
  The types of the program as the walk knows them, checked against the program.
-/
import Derived.Test.YtpnjflimilamdaaGreatProg
import Derived.Test.YtpnjflimilamdaaGreatAw21
namespace Go.Proofs.YtpnjflimilamdaaGreat
open Go.Aw

def tbl : List (Nat × TI) := [
  (2, ⟨1, 8, .scalar, [.int .i64 0], []⟩),
  (3, ⟨1, 8, .scalar, [.int .i64 0], []⟩),
  (4, ⟨1, 1, .scalar, [.bool false], []⟩),
  (22, ⟨1, 24, .slice 24, [.lst 3 [] true], []⟩),
  (24, ⟨3, 40, .struct [(0, 3), (1, 3), (2, 22)], [.int .i64 0, .int .i64 0, .lst 3 [] true], [(0, 1), (1, 1), (2, 1)]⟩),
  (27, ⟨1, 8, .scalar, [.int .i64 0], []⟩),
  (38, ⟨1, 24, .slice 66, [.lst 12 [] true], []⟩),
  (40, ⟨1, 8, .scalar, [.nilf], []⟩),
  (41, ⟨1, 8, .scalar, [.nilf], []⟩),
  (44, ⟨1, 8, .scalar, [.nilp], []⟩),
  (47, ⟨1, 24, .slice 54, [.lst 6 [] true], []⟩),
  (49, ⟨5, 56, .struct [(0, 47), (1, 3), (2, 4), (3, 3), (4, 3)], [.lst 6 [] true, .int .i64 0, .bool false, .int .i64 0, .int .i64 0], [(0, 1), (1, 1), (2, 1), (3, 1), (4, 1)]⟩),
  (54, ⟨6, 64, .struct [(0, 24), (3, 3), (4, 3), (5, 3)], [.int .i64 0, .int .i64 0, .lst 3 [] true, .int .i64 0, .int .i64 0, .int .i64 0], [(0, 3), (3, 1), (4, 1), (5, 1)]⟩),
  (56, ⟨1, 8, .scalar, [.nilf], []⟩),
  (66, ⟨12, 160, .struct [(0, 3), (1, 24), (4, 24), (7, 3), (8, 3), (9, 64)], [.int .i64 0, .int .i64 0, .int .i64 0, .lst 3 [] true, .int .i64 0, .int .i64 0, .lst 3 [] true, .int .i64 0, .int .i64 0, .lst 6 [] true, .lst 6 [] true, .int .i64 0], [(0, 1), (1, 3), (4, 3), (7, 1), (8, 1), (9, 3)]⟩),
  (64, ⟨3, 56, .struct [(0, 61), (1, 62), (2, 3)], [.lst 6 [] true, .lst 6 [] true, .int .i64 0], [(0, 1), (1, 1), (2, 1)]⟩),
  (61, ⟨1, 24, .slice 83, [.lst 6 [] true], []⟩),
  (62, ⟨1, 24, .slice 88, [.lst 6 [] true], []⟩),
  (81, ⟨1, 24, .slice 103, [.lst 7 [] true], []⟩),
  (83, ⟨6, 80, .struct [(0, 81), (1, 3), (2, 4), (3, 24)], [.lst 7 [] true, .int .i64 0, .bool false, .int .i64 0, .int .i64 0, .lst 3 [] true], [(0, 1), (1, 1), (2, 1), (3, 3)]⟩),
  (88, ⟨6, 96, .struct [(0, 3), (1, 81), (2, 22), (3, 24)], [.int .i64 0, .lst 7 [] true, .lst 3 [] true, .int .i64 0, .int .i64 0, .lst 3 [] true], [(0, 1), (1, 1), (2, 1), (3, 3)]⟩),
  (99, ⟨1, 24, .slice 3, [.lst 1 [] true], []⟩),
  (103, ⟨7, 104, .struct [(0, 4), (1, 24), (4, 22), (5, 3), (6, 22)], [.bool false, .int .i64 0, .int .i64 0, .lst 3 [] true, .lst 3 [] true, .int .i64 0, .lst 3 [] true], [(0, 1), (1, 3), (4, 1), (5, 1), (6, 1)]⟩)]

def look : List (Nat × TI) → Nat → Option TI
  | [], _ => none
  | (k, i) :: l, t => match Nat.beq t k with
    | true => some i
    | false => look l t
def ty : Ty := look tbl
theorem look_ok {P : Program} : ∀ {l : List (Nat × TI)}, l.all (fun p => tiOK P p.1 p.2) = true → TyOK P (look l)
  | [], _, t, i, h => by cases h
  | (k, j) :: l, hl, t, i, h => by
    simp only [List.all_cons, Bool.and_eq_true] at hl
    unfold look at h
    split at h
    · rename_i e
      obtain rfl := Option.some.inj h
      rw [Nat.eq_of_beq_eq_true e]; exact hl.1
    · exact look_ok hl.2 t i h
theorem hty : TyOK Tryz.prog ty := look_ok (by kernel_rfl)

end Go.Proofs.YtpnjflimilamdaaGreat
