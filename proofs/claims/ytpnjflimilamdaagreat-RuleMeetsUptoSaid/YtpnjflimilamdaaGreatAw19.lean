/-
  The program's data told by plain Lean: terms, arguments, constructors, codes, sorts, blocks; how they lie in cells. Words of the walk.
-/
import Derived.Test.YtpnjflimilamdaaGreatAw18
namespace Go.Aw
open Go.RowKit

inductive Tm where
  | mk (kind num : Int) (kids : List Tm)
  deriving Inhabited
def Tm.kind : Tm → Int | .mk k _ _ => k
def Tm.num : Tm → Int | .mk _ n _ => n
def Tm.kids : Tm → List Tm | .mk _ _ l => l

mutual
def rT : Tm → List AV
  | .mk k n l => [.int .i64 k, .int .i64 n, .lst 3 (rsT l) false]
def rsT : List Tm → List (List AV)
  | [] => []
  | t :: l => rT t :: rsT l
end
abbrev cT (t : Tm) : List AV := [.int .i64 t.kind, .int .i64 t.num, .lst 3 (rsT t.kids) false]
abbrev aT (t : Tm) : AV := .agg (cT t)
abbrev sT (l : List Tm) : AV := .lst 3 (rsT l) false
theorem rT_eq (t : Tm) : rT t = cT t := by cases t; rfl
theorem rsT_map (l : List Tm) : rsT l = l.map rT := by
  induction l with
  | nil => rfl
  | cons t l ih => simp [rsT, ih]
theorem rsT_length (l : List Tm) : (rsT l).length = l.length := by rw [rsT_map, List.length_map]
theorem rsT_get {l : List Tm} {i : Nat} {t : Tm} (h : l[i]? = some t) : (rsT l)[i]? = some (cT t) := by rw [rsT_map, List.getElem?_map, h, ← rT_eq]; rfl
theorem rsT_append (l r : List Tm) : rsT (l ++ r) = rsT l ++ rsT r := by simp [rsT_map]

theorem rs1 (t : Tm) : rsT [t] = [cT t] := by simp [rsT, rT_eq]
theorem rs2 (t u : Tm) : rsT [t, u] = [cT t, cT u] := by simp [rsT, rT_eq]
theorem rs3 (t u v : Tm) : rsT [t, u, v] = [cT t, cT u, cT v] := by simp [rsT, rT_eq]
theorem rsc (t : Tm) (l : List Tm) : rsT (t :: l) = cT t :: rsT l := by simp [rsT, rT_eq]

mutual
def Tm.size : Tm → Nat
  | .mk _ _ l => 1 + sizes l
def sizes : List Tm → Nat
  | [] => 0
  | t :: l => t.size + sizes l
end
theorem Tm.size_eq (t : Tm) : t.size = 1 + sizes t.kids := by cases t; simp [Tm.size, Tm.kids]
theorem sizes_append (l r : List Tm) : sizes (l ++ r) = sizes l + sizes r := by
  induction l with
  | nil => simp [sizes]
  | cons t l ih => simp [sizes, ih]; omega
theorem Tm.size_pos (t : Tm) : 1 ≤ t.size := by rw [t.size_eq]; omega
theorem size_le_sizes {l : List Tm} {t : Tm} (h : t ∈ l) : t.size ≤ sizes l := by
  induction l with
  | nil => cases h
  | cons a l ih =>
    simp only [sizes]
    rcases List.mem_cons.1 h with rfl | h
    · omega
    · have := ih h; omega
theorem len_le_sizes (l : List Tm) : l.length ≤ sizes l := by
  induction l with
  | nil => simp
  | cons a l ih =>
    simp only [sizes, List.length_cons]
    have := a.size_pos; omega
theorem sizes_take (l : List Tm) (j : Nat) : sizes (l.take j) ≤ sizes l := by
  have := sizes_append (l.take j) (l.drop j)
  rw [List.take_append_drop] at this; omega
theorem sizes_take_succ {l : List Tm} {j : Nat} {t : Tm} (h : l[j]? = some t) : sizes (l.take (j + 1)) = sizes (l.take j) + t.size := by
  rw [List.take_add_one, h, Option.toList_some, sizes_append]; simp [sizes]

mutual
def Tm.depth : Tm → Nat
  | .mk _ _ l => depths l + 1
def depths : List Tm → Nat
  | [] => 0
  | t :: l => max t.depth (depths l)
end
theorem Tm.depth_eq (t : Tm) : t.depth = depths t.kids + 1 := by cases t; simp [Tm.depth, Tm.kids]
theorem depths_append (l r : List Tm) : depths (l ++ r) = max (depths l) (depths r) := by
  induction l with
  | nil => simp [depths]
  | cons t l ih => simp only [List.cons_append, depths, ih, Nat.max_assoc]
theorem depths_take_succ {l : List Tm} {j : Nat} {t : Tm} (h : l[j]? = some t) : depths (l.take (j + 1)) = max (depths (l.take j)) t.depth := by
  rw [List.take_add_one, h, Option.toList_some, depths_append]; simp [depths]
mutual
theorem Tm.depth_le : ∀ t : Tm, t.depth ≤ t.size
  | .mk _ _ l => by have := depths_le l; simp only [Tm.depth, Tm.size]; omega
theorem depths_le : ∀ l : List Tm, depths l ≤ sizes l
  | [] => by simp [depths]
  | t :: l => by have := t.depth_le; have := depths_le l; simp only [depths, sizes]; omega
end
/-- More than is played? -/
def heavyT (l : List Tm) : Bool := decide (60 < l.length) || l.any (fun t => decide (300 < t.depth)) || decide (9000 < sizes l)

mutual
def eqT : Tm → Tm → Bool
  | .mk k n l, .mk k' n' l' => decide (k = k') && decide (n = n') && eqsT l l'
def eqsT : List Tm → List Tm → Bool
  | [], [] => true
  | a :: l, b :: r => eqT a b && eqsT l r
  | _, _ => false
end
mutual
theorem eqT_iff : ∀ a b : Tm, eqT a b = true ↔ a = b
  | .mk k n l, .mk k' n' l' => by simp [eqT, eqsT_iff l l', and_assoc]
theorem eqsT_iff : ∀ a b : List Tm, eqsT a b = true ↔ a = b
  | [], [] => by simp [eqsT]
  | a :: l, b :: r => by simp [eqsT, eqT_iff a b, eqsT_iff l r]
  | [], b :: r => by simp [eqsT]
  | a :: l, [] => by simp [eqsT]
end
instance : DecidableEq Tm := fun a b => if h : eqT a b = true then isTrue ((eqT_iff a b).1 h) else isFalse (fun q => h ((eqT_iff a b).2 q))

structure Ar where
  rc : Bool
  typ : Tm
  dom : List Tm
  sort : Int
  idx : List Tm
  deriving DecidableEq
def Ar.size (a : Ar) : Nat := a.typ.size + sizes a.dom + sizes a.idx
def sizesA : List Ar → Nat
  | [] => 0
  | a :: l => a.size + sizesA l
theorem Ar.size_pos (a : Ar) : 1 ≤ a.size := by have := a.typ.size_pos; unfold Ar.size; omega
theorem size_le_sizesA {l : List Ar} {t : Ar} (h : t ∈ l) : t.size ≤ sizesA l := by
  induction l with
  | nil => cases h
  | cons a l ih =>
    simp only [sizesA]
    rcases List.mem_cons.1 h with rfl | h
    · omega
    · have := ih h; omega
theorem len_le_sizesA (l : List Ar) : l.length ≤ sizesA l := by
  induction l with
  | nil => simp
  | cons a l ih =>
    simp only [sizesA, List.length_cons]
    have := a.size_pos; omega
theorem sizesA_append (l r : List Ar) : sizesA (l ++ r) = sizesA l + sizesA r := by
  induction l with
  | nil => simp [sizesA]
  | cons t l ih => simp [sizesA, ih]; omega
abbrev cA (a : Ar) : List AV := [.bool a.rc, .int .i64 a.typ.kind, .int .i64 a.typ.num, .lst 3 (rsT a.typ.kids) false, .lst 3 (rsT a.dom) false, .int .i64 a.sort, .lst 3 (rsT a.idx) false]
def rsA : List Ar → List (List AV)
  | [] => []
  | a :: l => cA a :: rsA l
abbrev aA (a : Ar) : AV := .agg (cA a)
abbrev sA (l : List Ar) : AV := .lst 7 (rsA l) false
theorem rsA_map (l : List Ar) : rsA l = l.map cA := by
  induction l with
  | nil => rfl
  | cons t l ih => simp [rsA, ih]
theorem rsA_length (l : List Ar) : (rsA l).length = l.length := by rw [rsA_map, List.length_map]
theorem rsA_get {l : List Ar} {i : Nat} {t : Ar} (h : l[i]? = some t) : (rsA l)[i]? = some (cA t) := by rw [rsA_map, List.getElem?_map, h]; rfl
theorem rsA_append (l r : List Ar) : rsA (l ++ r) = rsA l ++ rsA r := by simp [rsA_map]

structure Cn where
  sort : Int
  args : List Ar
  idx : List Tm
  dec : Tm
  deriving DecidableEq
def Cn.size (c : Cn) : Nat := sizesA c.args + sizes c.idx + c.dec.size
def sizesC : List Cn → Nat
  | [] => 0
  | a :: l => a.size + sizesC l
theorem Cn.size_pos (a : Cn) : 1 ≤ a.size := by have := a.dec.size_pos; unfold Cn.size; omega
theorem size_le_sizesC {l : List Cn} {t : Cn} (h : t ∈ l) : t.size ≤ sizesC l := by
  induction l with
  | nil => cases h
  | cons a l ih =>
    simp only [sizesC]
    rcases List.mem_cons.1 h with rfl | h
    · omega
    · have := ih h; omega
theorem len_le_sizesC (l : List Cn) : l.length ≤ sizesC l := by
  induction l with
  | nil => simp
  | cons a l ih =>
    simp only [sizesC, List.length_cons]
    have := a.size_pos; omega
abbrev cC (c : Cn) : List AV := [.int .i64 c.sort, .lst 7 (rsA c.args) false, .lst 3 (rsT c.idx) false, .int .i64 c.dec.kind, .int .i64 c.dec.num, .lst 3 (rsT c.dec.kids) false]
def rsC : List Cn → List (List AV)
  | [] => []
  | a :: l => cC a :: rsC l
abbrev aC (c : Cn) : AV := .agg (cC c)
abbrev sC (l : List Cn) : AV := .lst 6 (rsC l) false
theorem rsC_map (l : List Cn) : rsC l = l.map cC := by
  induction l with
  | nil => rfl
  | cons t l ih => simp [rsC, ih]
theorem rsC_length (l : List Cn) : (rsC l).length = l.length := by rw [rsC_map, List.length_map]
theorem rsC_get {l : List Cn} {i : Nat} {t : Cn} (h : l[i]? = some t) : (rsC l)[i]? = some (cC t) := by rw [rsC_map, List.getElem?_map, h]; rfl
theorem rsC_append (l r : List Cn) : rsC (l ++ r) = rsC l ++ rsC r := by simp [rsC_map]

structure Cd where
  kind : Int
  typ : Tm
  dom : List Tm
  sort : Int
  idx : List Tm
  dec : Tm
  deriving DecidableEq
def Cd.size (c : Cd) : Nat := c.typ.size + sizes c.dom + sizes c.idx + c.dec.size
def sizesD : List Cd → Nat
  | [] => 0
  | a :: l => a.size + sizesD l
theorem Cd.size_pos (a : Cd) : 1 ≤ a.size := by have := a.dec.size_pos; unfold Cd.size; omega
theorem size_le_sizesD {l : List Cd} {t : Cd} (h : t ∈ l) : t.size ≤ sizesD l := by
  induction l with
  | nil => cases h
  | cons a l ih =>
    simp only [sizesD]
    rcases List.mem_cons.1 h with rfl | h
    · omega
    · have := ih h; omega
theorem len_le_sizesD (l : List Cd) : l.length ≤ sizesD l := by
  induction l with
  | nil => simp
  | cons a l ih =>
    simp only [sizesD, List.length_cons]
    have := a.size_pos; omega
theorem sizesD_append (l r : List Cd) : sizesD (l ++ r) = sizesD l + sizesD r := by
  induction l with
  | nil => simp [sizesD]
  | cons t l ih => simp [sizesD, ih]; omega
abbrev cD (c : Cd) : List AV := [.int .i64 c.kind, .int .i64 c.typ.kind, .int .i64 c.typ.num, .lst 3 (rsT c.typ.kids) false, .lst 3 (rsT c.dom) false, .int .i64 c.sort, .lst 3 (rsT c.idx) false, .int .i64 c.dec.kind, .int .i64 c.dec.num, .lst 3 (rsT c.dec.kids) false]
def rsD : List Cd → List (List AV)
  | [] => []
  | a :: l => cD a :: rsD l
abbrev aD (c : Cd) : AV := .agg (cD c)
abbrev sD (l : List Cd) : AV := .lst 10 (rsD l) false
theorem rsD_map (l : List Cd) : rsD l = l.map cD := by
  induction l with
  | nil => rfl
  | cons t l ih => simp [rsD, ih]
theorem rsD_length (l : List Cd) : (rsD l).length = l.length := by rw [rsD_map, List.length_map]
theorem rsD_get {l : List Cd} {i : Nat} {t : Cd} (h : l[i]? = some t) : (rsD l)[i]? = some (cD t) := by rw [rsD_map, List.getElem?_map, h]; rfl
theorem rsD_append (l r : List Cd) : rsD (l ++ r) = rsD l ++ rsD r := by simp [rsD_map]

structure Sr where
  idx : List Ar
  level : Int
  dec : Bool
  decT : Tm
  deriving DecidableEq
def Sr.size (c : Sr) : Nat := sizesA c.idx + c.decT.size
def sizesS : List Sr → Nat
  | [] => 0
  | a :: l => a.size + sizesS l
theorem Sr.size_pos (a : Sr) : 1 ≤ a.size := by have := a.decT.size_pos; unfold Sr.size; omega
theorem size_le_sizesS {l : List Sr} {t : Sr} (h : t ∈ l) : t.size ≤ sizesS l := by
  induction l with
  | nil => cases h
  | cons a l ih =>
    simp only [sizesS]
    rcases List.mem_cons.1 h with rfl | h
    · omega
    · have := ih h; omega
theorem len_le_sizesS (l : List Sr) : l.length ≤ sizesS l := by
  induction l with
  | nil => simp
  | cons a l ih =>
    simp only [sizesS, List.length_cons]
    have := a.size_pos; omega
abbrev cS (s : Sr) : List AV := [.lst 7 (rsA s.idx) false, .int .i64 s.level, .bool s.dec, .int .i64 s.decT.kind, .int .i64 s.decT.num, .lst 3 (rsT s.decT.kids) false]
def rsS : List Sr → List (List AV)
  | [] => []
  | a :: l => cS a :: rsS l
abbrev aS (c : Sr) : AV := .agg (cS c)
abbrev sS (l : List Sr) : AV := .lst 6 (rsS l) false
theorem rsS_map (l : List Sr) : rsS l = l.map cS := by
  induction l with
  | nil => rfl
  | cons t l ih => simp [rsS, ih]
theorem rsS_length (l : List Sr) : (rsS l).length = l.length := by rw [rsS_map, List.length_map]
theorem rsS_get {l : List Sr} {i : Nat} {t : Sr} (h : l[i]? = some t) : (rsS l)[i]? = some (cS t) := by rw [rsS_map, List.getElem?_map, h]; rfl
theorem rsS_append (l r : List Sr) : rsS (l ++ r) = rsS l ++ rsS r := by simp [rsS_map]

structure Bl where
  sorts : List Sr
  cons : List Cn
  elim : Int
  deriving DecidableEq
def Bl.size (b : Bl) : Nat := sizesS b.sorts + sizesC b.cons
abbrev aB (b : Bl) : AV := .agg [.lst 6 (rsS b.sorts) false, .lst 6 (rsC b.cons) false, .int .i64 b.elim]

/-- A loop that counts up to n, keeping I. -/
theorem AC_for {P : Program} {w0 : B0} {nt : Nat} {s : AS} {C : Exit → AS → Prop} {c : Code} (n : Nat) (I : Nat → Prop) (mk : Nat → AS) (h0 : Less s (mk 0)) (hI : I 0)
    (h : ∀ j, j ≤ n → I j → AC P w0 nt c (mk j) (sq (fun s' => j < n ∧ I (j + 1) ∧ Less s' (mk (j + 1))) C)) : AC P w0 nt (.loop c) s C := by
  refine AC_loop mk (fun j => j ≤ n ∧ I j) (fun j => n - j) 0 h0 ⟨Nat.zero_le _, hI⟩ (fun j hj => ?_)
  intro β S a w Q hs hq
  refine h j hj.1 hj.2 β S a w Q hs (fun e β' S' a' w' s' hk hs' => hq e β' S' a' w' s' ?_ hs')
  cases e with
  | normal => exact ⟨j + 1, ⟨hk.1, hk.2.1⟩, by have := hk.1; show n - (j + 1) < n - j; omega, hk.2.2⟩
  | _ => exact hk

theorem Tm.ext {a b : Tm} (h1 : a.kind = b.kind) (h2 : a.num = b.num) (h3 : a.kids = b.kids) : a = b := by
  cases a; cases b
  simp only [Tm.kind, Tm.num, Tm.kids] at h1 h2 h3
  rw [h1, h2, h3]

def heavyA (l : List Ar) : Bool := decide (20 < l.length) || l.any (fun a => heavyT [a.typ] || heavyT a.dom || heavyT a.idx)
def heavyS (s : Sr) : Bool := heavyA s.idx || heavyT [s.decT]
def heavyC (c : Cn) : Bool := heavyA c.args || heavyT c.idx || heavyT [c.dec]
def heavyB (b : Bl) : Bool := decide (10 < b.sorts.length) || decide (20 < b.cons.length) || b.sorts.any heavyS || b.cons.any heavyC

def zT : Tm := .mk 0 0 []
def codeOf (a : Ar) : Cd := if a.rc = true then ⟨3, zT, a.dom, a.sort, a.idx, zT⟩ else ⟨2, a.typ, [], 0, [], zT⟩
def compile (c : Cn) : List Cd := c.args.map codeOf ++ [⟨1, zT, [], 0, c.idx, c.dec⟩]

def formedD (x : Cd) : Bool :=
  if x.kind = 2 then decide ((x.dom.length : Int) + x.idx.length = 0) && decide (x.sort = 0) && decide (x.dec = zT)
  else if x.kind = 3 then decide (x.typ = zT) && decide (x.dec = zT)
  else if x.kind = 1 then decide (x.typ = zT) && decide ((x.dom.length : Int) = 0) && decide (x.sort = 0)
  else false

def argOf (x : Cd) : Ar := if x.kind = 2 then ⟨false, x.typ, [], 0, []⟩ else ⟨true, zT, x.dom, x.sort, x.idx⟩
/-- Each step has what its kind says; the end stands at the end. -/
def okRow (l : List Cd) : Bool := l.zipIdx.all fun p => formedD p.1 && (decide (p.1.kind = 1) == decide (p.2 + 1 = l.length))
theorem okRow_iff {l : List Cd} : okRow l = true ↔ ∀ (i : Nat) (x : Cd), l[i]? = some x → formedD x = true ∧ (x.kind = 1 ↔ i + 1 = l.length) := by
  unfold okRow
  rw [List.all_eq_true]
  constructor
  · intro h i x hx
    have := h (x, i) (by rw [List.mem_zipIdx_iff_getElem?]; exact hx)
    simpa using this
  · intro h p hp
    obtain ⟨x, i⟩ := p
    have := h i x (by rw [List.mem_zipIdx_iff_getElem?] at hp; exact hp)
    simpa using this
def zC : Cn := ⟨0, [], [], zT⟩
def expand (sort : Int) (l : List Cd) : Cn × Int := match okRow l, l.getLast? with
  | true, some x => (⟨sort, l.dropLast.map argOf, x.idx, x.dec⟩, 0)
  | _, _ => (zC, 12)

/-- A search that found nothing yet. -/
theorem any_take_succ {α : Type} {p : α → Bool} {l : List α} {j : Nat} {t : α} (h : l[j]? = some t) : (l.take (j + 1)).any p = ((l.take j).any p || p t) := by
  rw [List.take_add_one, h, Option.toList_some, List.any_append]; simp
theorem any_of_get {α : Type} {p : α → Bool} {l : List α} {j : Nat} {t : α} (h : l[j]? = some t) (hp : p t = true) : l.any p = true :=
  List.any_eq_true.2 ⟨t, List.mem_of_getElem? h, hp⟩

/-! numbers that do not wrap -/
theorem wrap_ok {n : Int} (h0 : -9223372036854775808 ≤ n) (h1 : n ≤ 9223372036854775807) : IntKind.i64.wrap n = n := by
  show (if (true && decide (n % 18446744073709551616 ≥ 9223372036854775808)) = true then n % 18446744073709551616 - 18446744073709551616 else n % 18446744073709551616) = n
  rw [Bool.true_and]
  by_cases h : n % 18446744073709551616 ≥ 9223372036854775808
  · rw [if_pos (decide_eq_true h)]; omega
  · rw [if_neg (by simpa using h)]; omega

theorem get_of_lt {α : Type} {l : List α} {j : Nat} (h : j < l.length) : ∃ t, l[j]? = some t ∧ t ∈ l := ⟨l[j], List.getElem?_eq_getElem h, List.getElem_mem h⟩

theorem Wk.of_eq {x y : AV} (h : x = y) : Wk x y := h ▸ .refl x
theorem see_eq {blk : Bk} {ids : List Nat} {x y : AV} (h : x = y) (hk : keepV ids y = true) : SeeV blk ids x y := .inl ⟨.of_eq h, hk⟩


end Go.Aw
