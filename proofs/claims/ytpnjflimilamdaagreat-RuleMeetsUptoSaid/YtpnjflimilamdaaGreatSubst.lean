/-
  Variables replaced: what a variable is replaced by, what comes of a term, free variables, terms moved.
-/
import Derived.Test.YtpnjflimilamdaaGreatTerm2
namespace Go.Proofs.YtpnjflimilamdaaGreat
set_option linter.unusedSimpArgs false
set_option linter.unusedVariables false
open Go.Aw Go.RowKit
attribute [local irreducible] WL AC WD MStep OkOp

structure Gr where
  t : Tm
  size : Int
  depth : Int
  free : Int
abbrev cG (g : Gr) : List AV := [.int .i64 g.t.kind, .int .i64 g.t.num, .lst 3 (rsT g.t.kids) false, .int .i64 g.size, .int .i64 g.depth, .int .i64 g.free]
def rsG : List Gr → List (List AV)
  | [] => []
  | a :: l => cG a :: rsG l
abbrev sG (l : List Gr) : AV := .lst 6 (rsG l) false
theorem rsG_map (l : List Gr) : rsG l = l.map cG := by
  induction l with
  | nil => rfl
  | cons t l ih => simp [rsG, ih]
theorem rsG_length (l : List Gr) : (rsG l).length = l.length := by rw [rsG_map, List.length_map]
theorem rsG_get {l : List Gr} {i : Nat} {t : Gr} (h : l[i]? = some t) : (rsG l)[i]? = some (cG t) := by rw [rsG_map, List.getElem?_map, h]; rfl
theorem rsG_append (l r : List Gr) : rsG (l ++ r) = rsG l ++ rsG r := by simp [rsG_map]

structure Jb where
  args : List Gr
  under : Int
  scope : Bool
  size : Int
  depth : Int
abbrev cJ (j : Jb) : List AV := [sG j.args, .int .i64 j.under, .bool j.scope, .int .i64 j.size, .int .i64 j.depth]

def whichJ (l : List Gr) (under n b : Int) : Int := if n < under + b then -1 else if (l.length : Int) ≤ n - (under + b) then -1 else (l.length : Int) - 1 - (n - (under + b))
theorem whichJ_lt {l : List Gr} {under n b : Int} (h : 0 ≤ whichJ l under n b) : (whichJ l under n b).toNat < l.length := by
  unfold whichJ at *
  split at h
  · omega
  · split at h
    · omega
    · rw [if_neg (by omega), if_neg (by omega)]; omega

theorem which_spec (j : Jb) (n b : Int) (hl : j.args.length ≤ 1048576) (hn : 0 ≤ n ∧ n ≤ 65535) (hu : 0 ≤ j.under ∧ j.under ≤ 65535) (hb : 0 ≤ b ∧ b ≤ 4194304) :
    FC Tryz.prog 22 [.eptr (cJ j) 0, .int .i64 n, .int .i64 b] (.int .i64 (whichJ j.args j.under n b)) := by
  have w1 : IntKind.i64.wrap (j.under + b) = j.under + b := wrap_ok (by omega) (by omega)
  have w2 : IntKind.i64.wrap (n - (j.under + b)) = n - (j.under + b) := wrap_ok (by omega) (by omega)
  refine FC_intro hty Tryz.func22 rfl rfl rfl fun w0 => ?_
  repeat' (first
    | refine WL_p hty rfl rfl ?_
    | refine WL_nil ?_
    | refine AC_seq ?_
    | refine AC_region ?_
    | refine AC_block ?_
    | refine AC_skip ?_
    | refine AC_condT rfl ?_
    | refine AC_condF rfl ?_
    | refine AC_exit ?_
    | refine AC_ret ?_
    | refine WL_ung rfl rfl ?_
    | refine WL_offT rfl rfl rfl ?_
    | refine WL_offF rfl rfl rfl ?_
    | refine WL_offU rfl rfl rfl ?_
    | refine WL_m rfl (m_idxN hty rfl rfl rfl (by assumption) rfl) ?_
    | refine ends_bool rfl ?_
    | refine WL_cmp rfl rfl rfl rfl (fun _ => ?_) (fun _ => ?_)
    | refine AC_cond rfl (fun _ => ?_) (fun _ => ?_))
  all_goals refine ends_int rfl ?_
  all_goals (try rw [rsG_length] at *)
  all_goals simp only [w1, w2] at *
  all_goals unfold whichJ
  · rw [if_pos (by assumption)]
  · rw [if_neg (by assumption), if_pos (by assumption)]
  · rw [if_neg (by assumption), if_neg (by assumption)]
    have w3 : IntKind.i64.wrap ((j.args.length : Int) - 1) = (j.args.length : Int) - 1 := wrap_ok (by omega) (by omega)
    rw [w3]
    exact wrap_ok (by omega) (by omega)

/-! what comes of a term -/
def mn40 (x : Int) : Int := if 1099511627776 < x then 1099511627776 else x
def mxI (a b : Int) : Int := if b > a then b else a
def zG : Gr := ⟨.mk 0 0 [], 0, 0, 0⟩
def nodeJ (j : Jb) (d : Int) : Jb := { j with size := mn40 (IntKind.i64.wrap (j.size + 1)), depth := mxI j.depth (IntKind.i64.wrap (d + 1)) }
def hitJ (j : Jb) (a : Gr) (b d : Int) : Jb := { j with scope := j.scope || (decide (0 ≤ a.free) && decide (65535 < IntKind.i64.wrap (IntKind.i64.wrap (a.free + j.under) + b))), size := mn40 (IntKind.i64.wrap (j.size + a.size)), depth := mxI j.depth (IntKind.i64.wrap (d + a.depth)) }
def lookV (j : Jb) (n b d : Int) : Jb := if 0 ≤ whichJ j.args j.under n b then hitJ j (j.args.getD (whichJ j.args j.under n b).toNat zG) b d else nodeJ j d
mutual
def lookT : Tm → Jb → Int → Int → Jb
  | .mk k n l, j, b, d => if k = 1 then lookV j n b d else lookTs k 0 l (nodeJ j d) b d
def lookTs : Int → Int → List Tm → Jb → Int → Int → Jb
  | _, _, [], j, _, _ => j
  | k, i, t :: l, j, b, d => lookTs k (i + 1) l (lookT t j (b + bindsR k i) (d + 1)) b d
end
theorem lookT_eq (t : Tm) (j : Jb) (b d : Int) : lookT t j b d = if t.kind = 1 then lookV j t.num b d else lookTs t.kind 0 t.kids (nodeJ j d) b d := by cases t; rw [lookT]; rfl
theorem lookTs_snoc (k b d : Int) (t : Tm) : ∀ (l : List Tm) (i : Int) (j : Jb), lookTs k i (l ++ [t]) j b d = lookT t (lookTs k i l j b d) (b + bindsR k (i + l.length)) (d + 1)
  | [], i, j => by simp [lookTs]
  | u :: l, i, j => by
    simp only [List.cons_append, lookTs, lookTs_snoc k b d t l, List.length_cons]
    rw [show i + 1 + (l.length : Int) = i + ((l.length + 1 : Nat) : Int) by omega]
theorem lookTs_next (k b d : Int) (j : Jb) {l : List Tm} {i : Nat} {t : Tm} (h : l[i]? = some t) : lookTs k 0 (l.take (i + 1)) j b d = lookT t (lookTs k 0 (l.take i) j b d) (b + bindsR k i) (d + 1) := by
  have hlt : i < l.length := (List.getElem?_eq_some_iff.1 h).1
  have h1 : (l.take i).length = i := by rw [List.length_take]; omega
  rw [List.take_add_one, h, Option.toList_some, lookTs_snoc, h1, Int.zero_add]
theorem lookV_keep (j : Jb) (n b d : Int) : (lookV j n b d).args = j.args ∧ (lookV j n b d).under = j.under := by unfold lookV; split <;> exact ⟨rfl, rfl⟩
mutual
theorem lookT_keep : ∀ (t : Tm) (j : Jb) (b d : Int), (lookT t j b d).args = j.args ∧ (lookT t j b d).under = j.under
  | .mk k n l, j, b, d => by
    rw [lookT]
    split
    · exact lookV_keep j n b d
    · exact lookTs_keep k 0 l (nodeJ j d) b d
theorem lookTs_keep : ∀ (k i : Int) (l : List Tm) (j : Jb) (b d : Int), (lookTs k i l j b d).args = j.args ∧ (lookTs k i l j b d).under = j.under
  | _, _, [], j, _, _ => by rw [lookTs]; exact ⟨rfl, rfl⟩
  | k, i, t :: l, j, b, d => by
    have h1 := lookTs_keep k (i + 1) l (lookT t j (b + bindsR k i) (d + 1)) b d
    have h2 := lookT_keep t j (b + bindsR k i) (d + 1)
    rw [lookTs]; exact ⟨h1.1.trans h2.1, h1.2.trans h2.2⟩
end

set_option maxHeartbeats 4000000 in
theorem look_var (t : Tm) (j : Jb) (b d : Int) (hk1 : t.kind = 1) (hfm : formedT t = true) (hl : j.args.length ≤ 1048576) (hu : 0 ≤ j.under ∧ j.under ≤ 65535) (hb : 0 ≤ b ∧ b ≤ 4194304) :
    MC Tryz.prog 43 [.ptr 0 0, aT t, .int .i64 b, .int .i64 d] (.box (cJ j)) (.tup []) (.box (cJ (lookT t j b d))) := by
  have hws := which_spec j t.num b hl (formedT_var hfm hk1) hu hb
  have hlk := lookT_eq t j b d
  rw [if_pos hk1] at hlk
  rw [hlk]
  unfold lookV
  by_cases hw : 0 ≤ whichJ j.args j.under t.num b
  · obtain ⟨a, ha, _⟩ := get_of_lt (whichJ_lt hw)
    have ra := rsG_get ha
    rw [if_pos hw, List.getD_eq_getElem?_getD, ha, Option.getD_some]
    obtain ⟨args, under, scope, size, depth⟩ := j
    cases scope
    all_goals
      refine MC_intro hty Tryz.func43 rfl rfl rfl rfl rfl fun w0 B => ?_
      repeat' (first
        | exact absurd hk1 ‹_›
        | exact absurd hw ‹_›
        | refine WL_m rfl (m_lentBox (id0 := 0) rfl rfl rfl hws rfl rfl) ?_
        | refine WL_m rfl (m_idxL hty rfl rfl rfl hw ra rfl) ?_
        | refine WL_m rfl (m_min rfl rfl rfl) ?_
        | refine WL_m rfl (m_max rfl rfl rfl) ?_
        | (refine AC_less (less_sub (l := [(0, _), (2, _), (3, _), (11, _)]) (bl := [(0, _), (11, _)]) ⟨⟨_, rfl, .inl ⟨.refl _, rfl⟩⟩, ⟨_, rfl, .inl ⟨.refl _, rfl⟩⟩, ⟨_, rfl, .inl ⟨.refl _, rfl⟩⟩, ⟨_, rfl, .inl ⟨.refl _, rfl⟩⟩, trivial⟩ ⟨⟨⟨_, rfl, .refl _⟩, rfl⟩, ⟨⟨_, rfl, .refl _⟩, rfl⟩, trivial⟩) ?_; refine AC_drawn [[], [0], [], [2], [0, 1], [0, 1, 2, 3, 4]] rfl rfl ?_)
        | refine AC_drawn [[], [], [1], [1, 2], [1, 2, 3], [1, 2, 3, 4], [1, 2, 3, 4, 5], [1, 2, 3, 4, 5, 6], [1, 2, 3, 4, 5, 6, 7], [1, 2, 3, 4, 5, 6, 7, 8], [1, 2, 3, 4, 5, 6, 7, 8, 9], [1, 2, 3, 4, 5, 6, 7, 8, 9, 10], [1, 2, 3, 4, 5, 6, 7, 8, 9], [1, 2, 3, 4, 5, 6, 7, 8, 9, 12], [1, 2, 3, 4, 5, 6, 7, 8, 9, 12, 13], [1, 2, 3, 4, 5, 6, 7, 8, 9, 12, 13, 14], [1, 2, 3, 4, 5, 6, 7, 8, 9, 10, 11, 12, 13, 14, 15], [1, 2, 3, 4, 5, 6, 7, 8, 9], [1, 2, 3, 4, 5, 6, 7, 8, 9, 10, 11, 12, 13, 14, 15, 16, 17], [1, 2, 3, 4, 5, 6, 7, 8, 9, 10, 11, 12, 13, 14, 15, 16, 17, 18], [1, 2, 3, 4, 5, 6, 7, 8, 9, 10, 11, 12, 13, 14, 15, 16, 17, 18, 19], [1, 2, 3, 4, 5, 6, 7, 8, 9, 10, 11, 12, 13, 14, 15, 16, 17, 18, 19, 20], [0, 1, 2, 3, 4, 5, 6, 7, 8, 9, 10, 11, 12, 13, 14, 15, 16, 17, 18, 19, 20, 21], [0, 1, 2, 3, 4, 5, 6, 7, 8, 9, 10, 11, 12, 13, 14, 15, 16, 17, 18, 19, 20, 21, 22], [0, 1, 2, 3, 4, 5, 6, 7, 8, 9, 10, 11, 12, 13, 14, 15, 16, 17, 18, 19, 20, 21, 22, 23]] rfl rfl ?_
        | refine WD_cons (.inl ⟨rfl, stepE_ok hty rfl rfl⟩) ?_
        | refine WD_cons (.inl ⟨rfl, m_idxN hty rfl rfl rfl (by assumption) rfl⟩) ?_
        | refine WD_ung rfl rfl ?_
        | refine WD_offT rfl rfl rfl ?_
        | refine WD_offF rfl rfl rfl ?_
        | refine WD_offU rfl rfl rfl ?_
        | refine WD_nil ⟨by kernel_rfl, ?_⟩
        | refine WL_p hty rfl rfl ?_
        | refine WL_nil ?_
        | refine AC_seq ?_
        | refine AC_region ?_
        | refine AC_block ?_
        | refine AC_skip ?_
        | refine AC_condT rfl ?_
        | refine AC_condF rfl ?_
        | refine AC_exit ?_
        | refine AC_ret ?_
        | refine WL_ung rfl rfl ?_
        | refine WL_offT rfl rfl rfl ?_
        | refine WL_offF rfl rfl rfl ?_
        | refine WL_offU rfl rfl rfl ?_
        | refine WL_m rfl (m_idxN hty rfl rfl rfl (by assumption) rfl) ?_
        | refine ends_bool rfl ?_
        | refine WL_cmp rfl rfl rfl rfl (fun _ => ?_) (fun _ => ?_)
        | refine AC_cond rfl (fun _ => ?_) (fun _ => ?_)
        | refine WD_cmp rfl rfl rfl rfl (fun _ => ?_) (fun _ => ?_))
      all_goals refine endsM_is 0 rfl rfl rfl rfl rfl rfl (.of_eq (congrArg (AB.bx none) ?_))
      all_goals simp [hitJ, mn40, mxI, *]
  · rw [if_neg hw]
    refine MC_intro hty Tryz.func43 rfl rfl rfl rfl rfl fun w0 B => ?_
    repeat' (first
      | exact absurd hk1 ‹_›
      | exact absurd (by assumption) hw
      | refine WL_m rfl (m_lentBox (id0 := 0) rfl rfl rfl hws rfl rfl) ?_
      | refine WL_m rfl (m_min rfl rfl rfl) ?_
      | refine WL_m rfl (m_max rfl rfl rfl) ?_
      | refine WL_p hty rfl rfl ?_
      | refine WL_nil ?_
      | refine AC_seq ?_
      | refine AC_region ?_
      | refine AC_block ?_
      | refine AC_skip ?_
      | refine AC_condT rfl ?_
      | refine AC_condF rfl ?_
      | refine AC_exit ?_
      | refine AC_ret ?_
      | refine WL_ung rfl rfl ?_
      | refine WL_offT rfl rfl rfl ?_
      | refine WL_offF rfl rfl rfl ?_
      | refine WL_offU rfl rfl rfl ?_
      | refine WL_m rfl (m_idxN hty rfl rfl rfl (by assumption) rfl) ?_
      | refine ends_bool rfl ?_
      | refine WL_cmp rfl rfl rfl rfl (fun _ => ?_) (fun _ => ?_)
      | refine AC_cond rfl (fun _ => ?_) (fun _ => ?_))
    refine endsM_is 0 rfl rfl rfl rfl rfl rfl (.of_eq (congrArg (AB.bx none) ?_))
    rfl

end Go.Proofs.YtpnjflimilamdaaGreat
