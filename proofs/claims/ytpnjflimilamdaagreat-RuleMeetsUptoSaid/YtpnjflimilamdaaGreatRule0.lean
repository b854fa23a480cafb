/-
  What a term's root is reduced to, over no constants.
-/
import Derived.Test.YtpnjflimilamdaaGreatInst
import Derived.Test.YtpnjflimilamdaaGreatTele
import Derived.Test.YtpnjflimilamdaaGreatTwin
namespace Go.Proofs.YtpnjflimilamdaaGreat
set_option linter.unusedSimpArgs false
set_option linter.unusedVariables false
open Go.Aw Go.RowKit
attribute [local irreducible] WL AC WD MStep OkOp

structure En where
  kind : Int
  typ : Tm
  body : Tm
  base : Int
  which : Int
  block : Bl
abbrev cE (e : En) : List AV := [.int .i64 e.kind, .int .i64 e.typ.kind, .int .i64 e.typ.num, .lst 3 (rsT e.typ.kids) false, .int .i64 e.body.kind, .int .i64 e.body.num, .lst 3 (rsT e.body.kids) false, .int .i64 e.base, .int .i64 e.which,
  .lst 6 (rsS e.block.sorts) false, .lst 6 (rsC e.block.cons) false, .int .i64 e.block.elim]
def rsE : List En → List (List AV)
  | [] => []
  | a :: l => cE a :: rsE l
abbrev aE (e : En) : AV := .agg (cE e)
abbrev sE (l : List En) : AV := .lst 12 (rsE l) false
theorem rsE_map (l : List En) : rsE l = l.map cE := by
  induction l with
  | nil => rfl
  | cons t l ih => simp [rsE, ih]
theorem rsE_length (l : List En) : (rsE l).length = l.length := by rw [rsE_map, List.length_map]
theorem rsE_get {l : List En} {i : Nat} {t : En} (h : l[i]? = some t) : (rsE l)[i]? = some (cE t) := by rw [rsE_map, List.getElem?_map, h]; rfl
def zE : En := ⟨0, zT, zT, 0, 0, ⟨[], [], 0⟩⟩

/-- The entry of a constant. -/
def ofE (env : List En) (t : Tm) : Option En := if t.kind = 3 ∧ 0 ≤ t.num then env[t.num.toNat]? else none
theorem of_spec (env : List En) (t : Tm) (hl : env.length ≤ 1048576) (hn : t.kind = 3 → 0 ≤ t.num) : FC Tryz.prog 40 [sE env, aT t] (match ofE env t with | some e => .tup [aE e, .bool true] | none => .tup [aE zE, .bool false]) := by
  by_cases hk : t.kind = 3
  · have h0 := hn hk
    have he : ofE env t = env[t.num.toNat]? := by unfold ofE; rw [if_pos ⟨hk, h0⟩]
    by_cases hlt : t.num.toNat < env.length
    · obtain ⟨e, hge, _⟩ := get_of_lt hlt
      have re := rsE_get hge
      rw [he, hge]
      refine FC_intro hty Tryz.func40 rfl rfl rfl fun w0 => ?_
      repeat' (first
        | exact absurd hk ‹_›
        | exact absurd (show t.num < env.length by omega) (by rw [← rsE_length]; omega)
        | refine WL_m rfl (m_idxL hty rfl rfl rfl h0 re rfl) ?_
        | refine WL_p hty rfl rfl ?_
        | refine WL_nil ?_
        | refine AC_seq ?_
        | refine AC_region ?_
        | refine AC_block ?_
        | refine AC_skip ?_
        | refine AC_condT rfl ?_
        | refine AC_condF rfl ?_
        | refine AC_exit ?_
        | refine AC_ret ?_
        | refine WL_ung rfl rfl ?_
        | refine WL_offT rfl rfl rfl ?_
        | refine WL_offF rfl rfl rfl ?_
        | refine WL_offU rfl rfl rfl ?_
        | refine WL_m rfl (m_idxN hty rfl rfl rfl (by assumption) rfl) ?_
        | refine ends_bool rfl ?_
        | refine WL_cmp rfl rfl rfl rfl (fun _ => ?_) (fun _ => ?_)
        | refine AC_cond rfl (fun _ => ?_) (fun _ => ?_))
      exact ends_wk rfl rfl (.refl _)
    · rw [he, List.getElem?_eq_none (by omega)]
      refine FC_intro hty Tryz.func40 rfl rfl rfl fun w0 => ?_
      repeat' (first
        | exact absurd hk ‹_›
        | exact absurd (show (env.length : Int) ≤ t.num by omega) (by rw [← rsE_length]; omega)
        | refine WL_p hty rfl rfl ?_
        | refine WL_nil ?_
        | refine AC_seq ?_
        | refine AC_region ?_
        | refine AC_block ?_
        | refine AC_skip ?_
        | refine AC_condT rfl ?_
        | refine AC_condF rfl ?_
        | refine AC_exit ?_
        | refine AC_ret ?_
        | refine WL_ung rfl rfl ?_
        | refine WL_offT rfl rfl rfl ?_
        | refine WL_offF rfl rfl rfl ?_
        | refine WL_offU rfl rfl rfl ?_
        | refine WL_m rfl (m_idxN hty rfl rfl rfl (by assumption) rfl) ?_
        | refine ends_bool rfl ?_
        | refine WL_cmp rfl rfl rfl rfl (fun _ => ?_) (fun _ => ?_)
        | refine AC_cond rfl (fun _ => ?_) (fun _ => ?_))
      refine ends_wk rfl rfl (.tup (.cons (.agg ?_) (.cons (.refl _) .nil)))
      repeat' (first | exact Wks.nil | refine Wks.cons (Wk.refl _) ?_ | refine Wks.cons (Wk.full _ _ _) ?_ | refine Wks.cons (Wk.nilF _ _ _) ?_)
  · have he : ofE env t = none := by unfold ofE; rw [if_neg (fun h => hk h.1)]
    rw [he]
    refine FC_intro hty Tryz.func40 rfl rfl rfl fun w0 => ?_
    repeat' (first
      | exact absurd (show t.kind ≠ 3 from hk) ‹_›
      | refine WL_p hty rfl rfl ?_
      | refine WL_nil ?_
      | refine AC_seq ?_
      | refine AC_region ?_
      | refine AC_block ?_
      | refine AC_skip ?_
      | refine AC_condT rfl ?_
      | refine AC_condF rfl ?_
      | refine AC_exit ?_
      | refine AC_ret ?_
      | refine WL_ung rfl rfl ?_
      | refine WL_offT rfl rfl rfl ?_
      | refine WL_offF rfl rfl rfl ?_
      | refine WL_offU rfl rfl rfl ?_
      | refine WL_m rfl (m_idxN hty rfl rfl rfl (by assumption) rfl) ?_
      | refine ends_bool rfl ?_
      | refine WL_cmp rfl rfl rfl rfl (fun _ => ?_) (fun _ => ?_)
      | refine AC_cond rfl (fun _ => ?_) (fun _ => ?_))
    refine ends_wk rfl rfl (.tup (.cons (.agg ?_) (.cons (.refl _) .nil)))
    repeat' (first | exact Wks.nil | refine Wks.cons (Wk.refl _) ?_ | refine Wks.cons (Wk.full _ _ _) ?_ | refine Wks.cons (Wk.nilF _ _ _) ?_)

theorem check0_spec (es : Nat) (f : Bool) : FC Tryz.prog 15 [.lst es [] f] (.int .i64 0) := by
  refine FC_intro hty Tryz.func15 rfl rfl rfl fun w0 => ?_
  repeat' (first
    | exact absurd (show ((0 : Nat) : Int) ≤ 200 by decide) (Int.not_le.2 (by assumption))
    | refine WL_m rfl (m_makeMap rfl) ?_
    | refine WL_p hty rfl rfl ?_
    | refine WL_nil ?_
    | refine AC_seq ?_
    | refine AC_region ?_
    | refine AC_block ?_
    | refine AC_skip ?_
    | refine AC_condT rfl ?_
    | refine AC_condF rfl ?_
    | refine AC_exit ?_
    | refine AC_ret ?_
    | refine WL_ung rfl rfl ?_
    | refine WL_offT rfl rfl rfl ?_
    | refine WL_offF rfl rfl rfl ?_
    | refine WL_offU rfl rfl rfl ?_
    | refine WL_m rfl (m_idxN hty rfl rfl rfl (by assumption) rfl) ?_
    | refine ends_bool rfl ?_
    | refine WL_cmp rfl rfl rfl rfl (fun _ => ?_) (fun _ => ?_)
    | refine AC_cond rfl (fun _ => ?_) (fun _ => ?_))
  refine AC_for 0 (fun _ => True) (fun _ => ⟨envOf [(13, .int .i64 0), (14, .int .i64 0)], bkOf []⟩) (less_sub ⟨⟨_, rfl, .inl ⟨.refl _, rfl⟩⟩, ⟨_, rfl, .inl ⟨.refl _, rfl⟩⟩, trivial⟩ trivial) trivial ?_
  intro i hi _
  repeat' (first
    | refine WL_p hty rfl rfl ?_
    | refine WL_nil ?_
    | refine AC_seq ?_
    | refine AC_region ?_
    | refine AC_block ?_
    | refine AC_skip ?_
    | refine AC_condT rfl ?_
    | refine AC_condF rfl ?_
    | refine AC_exit ?_
    | refine AC_ret ?_
    | refine WL_ung rfl rfl ?_
    | refine WL_offT rfl rfl rfl ?_
    | refine WL_offF rfl rfl rfl ?_
    | refine WL_offU rfl rfl rfl ?_
    | refine WL_m rfl (m_idxN hty rfl rfl rfl (by assumption) rfl) ?_
    | refine ends_bool rfl ?_)
  refine WL_cmp rfl rfl rfl rfl (fun hc => by omega) (fun hc => ?_)
  repeat' (first
    | refine WL_p hty rfl rfl ?_
    | refine WL_nil ?_
    | refine AC_seq ?_
    | refine AC_region ?_
    | refine AC_block ?_
    | refine AC_skip ?_
    | refine AC_condT rfl ?_
    | refine AC_condF rfl ?_
    | refine AC_exit ?_
    | refine AC_ret ?_
    | refine WL_ung rfl rfl ?_
    | refine WL_offT rfl rfl rfl ?_
    | refine WL_offF rfl rfl rfl ?_
    | refine WL_offU rfl rfl rfl ?_
    | refine WL_m rfl (m_idxN hty rfl rfl rfl (by assumption) rfl) ?_
    | refine ends_bool rfl ?_
    | refine WL_cmp rfl rfl rfl rfl (fun _ => ?_) (fun _ => ?_)
    | refine AC_cond rfl (fun _ => ?_) (fun _ => ?_))
  exact ends_int rfl rfl

/-! what can be reduced -/
inductive Rx where
  | none
  | inst (f t : Tm)
  | done (u : Tm)
abbrev rxAV : Rx → AV
  | .none => .nilf
  | .inst f t => .fn (.func 36) [] [.eptr (cT f) 0, .eptr (cT t) 0]
  | .done u => .fn (.func 68) [] [.eptr (cT u) 0]

theorem done_spec (u : Tm) : FC Tryz.prog 38 [aT u] (rxAV (.done u)) := by
  refine FC_intro hty Tryz.func38 rfl rfl rfl fun w0 => ?_
  repeat' (first
    | refine WL_less (less_freezeBox 1 rfl rfl) ?_
    | refine WL_m rfl (m_makeFunc rfl rfl rfl) ?_
    | refine WL_p hty rfl rfl ?_
    | refine WL_nil ?_
    | refine AC_seq ?_
    | refine AC_region ?_
    | refine AC_block ?_
    | refine AC_skip ?_
    | refine AC_condT rfl ?_
    | refine AC_condF rfl ?_
    | refine AC_exit ?_
    | refine AC_ret ?_
    | refine WL_ung rfl rfl ?_
    | refine WL_offT rfl rfl rfl ?_
    | refine WL_offF rfl rfl rfl ?_
    | refine WL_offU rfl rfl rfl ?_
    | refine WL_m rfl (m_idxN hty rfl rfl rfl (by assumption) rfl) ?_
    | refine ends_bool rfl ?_
    | refine WL_cmp rfl rfl rfl rfl (fun _ => ?_) (fun _ => ?_)
    | refine AC_cond rfl (fun _ => ?_) (fun _ => ?_))
  exact ends_wk rfl rfl (.refl _)
theorem done1_spec (u : Tm) : FC Tryz.prog 68 [.eptr (cT u) 0] (.tup [aT u, .int .i64 0]) := by
  refine FC_intro hty Tryz.func68 rfl rfl rfl fun w0 => ?_
  repeat' (first
    | refine WL_p hty rfl rfl ?_
    | refine WL_nil ?_
    | refine AC_seq ?_
    | refine AC_region ?_
    | refine AC_block ?_
    | refine AC_skip ?_
    | refine AC_condT rfl ?_
    | refine AC_condF rfl ?_
    | refine AC_exit ?_
    | refine AC_ret ?_
    | refine WL_ung rfl rfl ?_
    | refine WL_offT rfl rfl rfl ?_
    | refine WL_offF rfl rfl rfl ?_
    | refine WL_offU rfl rfl rfl ?_
    | refine WL_m rfl (m_idxN hty rfl rfl rfl (by assumption) rfl) ?_
    | refine ends_bool rfl ?_
    | refine WL_cmp rfl rfl rfl rfl (fun _ => ?_) (fun _ => ?_)
    | refine AC_cond rfl (fun _ => ?_) (fun _ => ?_))
  exact ends_wk rfl rfl (.refl _)

theorem look1_spec (f t b : Tm) (hb : f.kids[1]? = some b) (hk : 1 ≤ t.kids.length) (h1 : f.size ≤ 1048576) (h2 : t.size ≤ 1048576) :
    FC Tryz.prog 36 [.eptr (cT f) 0, .eptr (cT t) 0] (.tup [aT (instT b (t.kids.drop 1) 0).1, .int .i64 (instT b (t.kids.drop 1) 0).2]) := by
  have hs1 := f.size_eq
  have hs2 := t.size_eq
  have hm := List.mem_of_getElem? hb
  have hbs := size_le_sizes hm
  have rb := rsT_get hb
  have hdr : sizes (t.kids.drop 1) ≤ sizes t.kids := by
    have := sizes_append (t.kids.take 1) (t.kids.drop 1)
    rw [List.take_append_drop] at this; omega
  have hin := inst_spec b (t.kids.drop 1) 0 (by omega) (by omega)
  have hlen := len_le_sizes t.kids
  have hrd : rsT (t.kids.drop 1) = ((rsT t.kids).take (rsT t.kids).length).drop 1 := by rw [rsT_map, rsT_map, List.take_length, List.map_drop]
  rw [show sT (t.kids.drop 1) = .lst 3 (((rsT t.kids).take (rsT t.kids).length).drop 1) false from congrArg (fun r => AV.lst 3 r false) hrd] at hin
  refine FC_intro hty Tryz.func36 rfl rfl rfl fun w0 => ?_
  repeat' (first
    | refine AC_drawn [[], [0], [0, 1], [0, 1, 2], [], [4], [4, 5], [0, 1, 2, 3, 4, 5, 6], [0, 1, 2, 3, 4, 5, 6, 7], [0, 1, 2, 3, 4, 5, 6, 7], [0, 1, 2, 3, 4, 5, 6, 7, 8, 9], [0, 1, 2, 3, 4, 5, 6, 7, 8, 9, 10]] rfl rfl ?_
    | refine WD_cons (.inl ⟨rfl, m_idxN (i := 1) hty rfl rfl rfl rb rfl⟩) ?_
    | refine WD_cons (.inl ⟨rfl, m_sliceL hty 1 (rsT t.kids).length rfl rfl ⟨_, 1, rfl, rfl⟩ rfl (by rw [rsT_length]; exact hk) (Nat.le_refl _) rfl⟩) ?_
    | refine WD_cons (.inl ⟨rfl, m_call 0 rfl hin rfl rfl rfl⟩) ?_
    | refine WD_cons (.inl ⟨rfl, stepE_ok hty rfl rfl⟩) ?_
    | refine WD_cons (.inl ⟨rfl, m_idxN hty rfl rfl rfl (by assumption) rfl⟩) ?_
    | refine WD_ung rfl rfl ?_
    | refine WD_offT rfl rfl rfl ?_
    | refine WD_offF rfl rfl rfl ?_
    | refine WD_offU rfl rfl rfl ?_
    | refine WD_nil ⟨by kernel_rfl, ?_⟩
    | refine WL_p hty rfl rfl ?_
    | refine WL_nil ?_
    | refine AC_seq ?_
    | refine AC_region ?_
    | refine AC_block ?_
    | refine AC_skip ?_
    | refine AC_condT rfl ?_
    | refine AC_condF rfl ?_
    | refine AC_exit ?_
    | refine AC_ret ?_
    | refine WL_ung rfl rfl ?_
    | refine WL_offT rfl rfl rfl ?_
    | refine WL_offF rfl rfl rfl ?_
    | refine WL_offU rfl rfl rfl ?_
    | refine WL_m rfl (m_idxN hty rfl rfl rfl (by assumption) rfl) ?_
    | refine ends_bool rfl ?_
    | refine WL_cmp rfl rfl rfl rfl (fun _ => ?_) (fun _ => ?_)
    | refine AC_cond rfl (fun _ => ?_) (fun _ => ?_))
  exact ends_wk rfl rfl (.refl _)

end Go.Proofs.YtpnjflimilamdaaGreat
