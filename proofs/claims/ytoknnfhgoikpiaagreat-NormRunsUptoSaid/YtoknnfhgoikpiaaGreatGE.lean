/-
  What a term's root is reduced to, over no constants.; What a term's root is reduced to, over no constants: Look, Root, Is.; What a term's root is reduced to, over no constants: Root, Is.
-/
import Derived.Test.YtoknnfhgoikpiaaGreatGD
import Derived.Test.YtoknnfhgoikpiaaGreatGC

/-
  What a term's root is reduced to, over no constants.
-/
namespace Go.Proofs.YtoknnfhgoikpiaaGreat
set_option linter.unusedSimpArgs false
set_option linter.unusedVariables false
open Go.Aw Go.RowKit
def tbRule0114_1 : List (Nat × List Nat) := [(0, []), (1, [0]), (2, [0, 1]), (3, [0, 1, 2]), (4, []), (5, [4]), (6, [4, 5]), (7, [0, 1, 2, 3, 4, 5, 6]), (8, [0, 1, 2, 3, 4, 5, 6, 7]), (9, [0, 1, 2, 3, 4, 5, 6, 7]), (10, [0, 1, 2, 3, 4, 5, 6, 7, 8, 9]), (11, [0, 1, 2, 3, 4, 5, 6, 7, 8, 9, 10])]
attribute [local irreducible] WL AC WD WE MStep OkOp

/-- The entry of a constant. -/
def ofE (env : List En) (t : Tm) : Option En := if t.kind = 3 ∧ 0 ≤ t.num then env[t.num.toNat]? else none
theorem of_spec (env : List En) (t : Tm) (hl : env.length ≤ 1048576) (hn : t.kind = 3 → 0 ≤ t.num) : FC Tryz.prog 118 [sE env, aT t] (match ofE env t with | some e => .tup [aE e, .bool true] | none => .tup [aE zE, .bool false]) := by
  by_cases hk : t.kind = 3
  · have h0 := hn hk
    have he : ofE env t = env[t.num.toNat]? := by unfold ofE; rw [if_pos ⟨hk, h0⟩]
    by_cases hlt : t.num.toNat < env.length
    · obtain ⟨e, hge, _⟩ := get_of_lt hlt
      have re := rsE_get hge
      rw [he, hge]
      refine FC_intro hty Tryz.func118 rfl rfl rfl fun w0 => ?_
      repeat' (first | exact absurd hk ‹_› | exact absurd (show t.num < env.length by omega) (by rw [← rsE_length]; omega) | refine WL_m rfl (m_idxL hty rfl rfl rfl h0 re rfl) ?_ | refine WL_p hty rfl rfl ?_ | refine WL_nil ?_ | refine AC_seq ?_ | refine AC_region ?_ | refine AC_skip ?_ | refine AC_condT rfl ?_ | refine AC_condF rfl ?_ | refine AC_ret ?_ | refine WL_ung rfl rfl ?_ | refine WL_offT rfl rfl rfl ?_ | refine WL_offF rfl rfl rfl ?_ | refine WL_offU rfl rfl rfl ?_ | refine WL_m rfl (m_idxN hty rfl rfl rfl (by assumption) rfl) ?_ | refine ends_bool rfl ?_ | refine WL_cmp rfl rfl rfl rfl (fun _ => ?_) (fun _ => ?_) | refine AC_cond rfl (fun _ => ?_) (fun _ => ?_))
      exact ends_wk rfl rfl (.refl _)
    · rw [he, List.getElem?_eq_none (by omega)]
      refine FC_intro hty Tryz.func118 rfl rfl rfl fun w0 => ?_
      repeat' (first | exact absurd hk ‹_› | exact absurd (show (env.length : Int) ≤ t.num by omega) (by rw [← rsE_length]; omega) | refine WL_p hty rfl rfl ?_ | refine WL_nil ?_ | refine AC_seq ?_ | refine AC_region ?_ | refine AC_skip ?_ | refine AC_condT rfl ?_ | refine AC_condF rfl ?_ | refine AC_ret ?_ | refine WL_ung rfl rfl ?_ | refine WL_offT rfl rfl rfl ?_ | refine WL_offF rfl rfl rfl ?_ | refine WL_offU rfl rfl rfl ?_ | refine WL_m rfl (m_idxN hty rfl rfl rfl (by assumption) rfl) ?_ | refine ends_bool rfl ?_ | refine WL_cmp rfl rfl rfl rfl (fun _ => ?_) (fun _ => ?_) | refine AC_cond rfl (fun _ => ?_) (fun _ => ?_))
      refine ends_wk rfl rfl (.tup (.cons (.agg ?_) (.cons (.refl _) .nil)))
      repeat' (first | exact Wks.nil | refine Wks.cons (Wk.refl _) ?_ | refine Wks.cons (Wk.full _ _ _) ?_ | refine Wks.cons (Wk.nilF _ _ _) ?_)
  · have he : ofE env t = none := by unfold ofE; rw [if_neg (fun h => hk h.1)]
    rw [he]
    refine FC_intro hty Tryz.func118 rfl rfl rfl fun w0 => ?_
    repeat' (first | exact absurd (show t.kind ≠ 3 from hk) ‹_› | refine WL_p hty rfl rfl ?_ | refine WL_nil ?_ | refine AC_seq ?_ | refine AC_region ?_ | refine AC_skip ?_ | refine AC_condT rfl ?_ | refine AC_condF rfl ?_ | refine AC_ret ?_ | refine WL_ung rfl rfl ?_ | refine WL_offT rfl rfl rfl ?_ | refine WL_offF rfl rfl rfl ?_ | refine WL_offU rfl rfl rfl ?_ | refine WL_m rfl (m_idxN hty rfl rfl rfl (by assumption) rfl) ?_ | refine ends_bool rfl ?_ | refine WL_cmp rfl rfl rfl rfl (fun _ => ?_) (fun _ => ?_) | refine AC_cond rfl (fun _ => ?_) (fun _ => ?_))
    refine ends_wk rfl rfl (.tup (.cons (.agg ?_) (.cons (.refl _) .nil)))
    repeat' (first | exact Wks.nil | refine Wks.cons (Wk.refl _) ?_ | refine Wks.cons (Wk.full _ _ _) ?_ | refine Wks.cons (Wk.nilF _ _ _) ?_)

theorem check0_spec (es : Nat) (f : Bool) : FC Tryz.prog 22 [.lst es [] f] (.int .i64 0) := by
  refine FC_intro hty Tryz.func22 rfl rfl rfl fun w0 => ?_
  repeat' (first | exact absurd (show ((0 : Nat) : Int) ≤ 200 by decide) (Int.not_le.2 (by assumption)) | refine WL_m rfl (m_makeMap rfl) ?_ | refine WL_p hty rfl rfl ?_ | refine WL_nil ?_ | refine AC_seq ?_ | refine AC_region ?_ | refine AC_block ?_ | refine AC_skip ?_ | refine AC_condT rfl ?_ | refine AC_condF rfl ?_ | refine AC_exit ?_ | refine AC_ret ?_ | refine WL_ung rfl rfl ?_ | refine WL_offT rfl rfl rfl ?_ | refine WL_offF rfl rfl rfl ?_ | refine WL_offU rfl rfl rfl ?_ | refine WL_m rfl (m_idxN hty rfl rfl rfl (by assumption) rfl) ?_ | refine ends_bool rfl ?_ | refine WL_cmp rfl rfl rfl rfl (fun _ => ?_) (fun _ => ?_) | refine AC_cond rfl (fun _ => ?_) (fun _ => ?_))
  refine AC_for 0 (fun _ => True) (fun _ => ⟨envOf [(13, .int .i64 0), (14, .int .i64 0)], bkOf []⟩) (less_sub ⟨⟨_, rfl, .inl ⟨.refl _, rfl⟩⟩, ⟨_, rfl, .inl ⟨.refl _, rfl⟩⟩, trivial⟩ trivial) trivial ?_
  intro i hi _
  repeat' (first | refine WL_p hty rfl rfl ?_ | refine WL_nil ?_ | refine AC_seq ?_ | refine AC_region ?_ | refine AC_block ?_ | refine AC_skip ?_ | refine AC_condT rfl ?_ | refine AC_condF rfl ?_ | refine AC_exit ?_ | refine AC_ret ?_ | refine WL_ung rfl rfl ?_ | refine WL_offT rfl rfl rfl ?_ | refine WL_offF rfl rfl rfl ?_ | refine WL_offU rfl rfl rfl ?_ | refine WL_m rfl (m_idxN hty rfl rfl rfl (by assumption) rfl) ?_ | refine ends_bool rfl ?_)
  refine WL_cmp rfl rfl rfl rfl (fun hc => by omega) (fun hc => ?_)
  repeat' (first | refine WL_p hty rfl rfl ?_ | refine WL_nil ?_ | refine AC_seq ?_ | refine AC_region ?_ | refine AC_block ?_ | refine AC_skip ?_ | refine AC_condT rfl ?_ | refine AC_condF rfl ?_ | refine AC_exit ?_ | refine AC_ret ?_ | refine WL_ung rfl rfl ?_ | refine WL_offT rfl rfl rfl ?_ | refine WL_offF rfl rfl rfl ?_ | refine WL_offU rfl rfl rfl ?_ | refine WL_m rfl (m_idxN hty rfl rfl rfl (by assumption) rfl) ?_ | refine ends_bool rfl ?_ | refine WL_cmp rfl rfl rfl rfl (fun _ => ?_) (fun _ => ?_) | refine AC_cond rfl (fun _ => ?_) (fun _ => ?_))
  exact ends_int rfl rfl

/-! what can be reduced -/
inductive Rx where
  | none
  | inst (f t : Tm)
  | done (u : Tm)
abbrev rxAV : Rx → AV
  | .none => .nilf
  | .inst f t => .fn (.func 114) [] [.eptr (cT f) 0, .eptr (cT t) 0]
  | .done u => .fn (.func 176) [] [.eptr (cT u) 0]

theorem done_spec (u : Tm) : FC Tryz.prog 116 [aT u] (rxAV (.done u)) := by
  refine FC_intro hty Tryz.func116 rfl rfl rfl fun w0 => ?_
  repeat' (first | refine WL_less (less_freezeBox 1 rfl rfl) ?_ | refine WL_m rfl (m_makeFunc rfl rfl rfl) ?_ | refine WL_p hty rfl rfl ?_ | refine WL_nil ?_ | refine AC_seq ?_ | refine AC_region ?_ | refine AC_skip ?_ | refine AC_ret ?_ | refine ends_bool rfl ?_)
  exact ends_wk rfl rfl (.refl _)
theorem done1_spec (u : Tm) : FC Tryz.prog 176 [.eptr (cT u) 0] (.tup [aT u, .int .i64 0]) := by
  refine FC_intro hty Tryz.func176 rfl rfl rfl fun w0 => ?_
  repeat' (first | refine WL_p hty rfl rfl ?_ | refine WL_nil ?_ | refine AC_seq ?_ | refine AC_region ?_ | refine AC_skip ?_ | refine AC_ret ?_ | refine ends_bool rfl ?_)
  exact ends_wk rfl rfl (.refl _)

theorem look1_spec (f t b : Tm) (hb : f.kids[1]? = some b) (hk : 1 ≤ t.kids.length) (h1 : f.size ≤ 1048576) (h2 : t.size ≤ 1048576) :
    FC Tryz.prog 114 [.eptr (cT f) 0, .eptr (cT t) 0] (.tup [aT (instT b (t.kids.drop 1) 0).1, .int .i64 (instT b (t.kids.drop 1) 0).2]) := by
  have hs1 := f.size_eq
  have hs2 := t.size_eq
  have hm := List.mem_of_getElem? hb
  have hbs := size_le_sizes hm
  have rb := rsT_get hb
  have hdr : sizes (t.kids.drop 1) ≤ sizes t.kids := by
    have := sizes_append (t.kids.take 1) (t.kids.drop 1)
    rw [List.take_append_drop] at this; omega
  have hin := inst_spec b (t.kids.drop 1) 0 (by omega) (by omega)
  have hlen := len_le_sizes t.kids
  have hrd : rsT (t.kids.drop 1) = ((rsT t.kids).take (rsT t.kids).length).drop 1 := by rw [rsT_map, rsT_map, List.take_length, List.map_drop]
  rw [show sT (t.kids.drop 1) = .lst 3 (((rsT t.kids).take (rsT t.kids).length).drop 1) false from congrArg (fun r => AV.lst 3 r false) hrd] at hin
  refine FC_intro hty Tryz.func114 rfl rfl rfl fun w0 => ?_
  repeat' (first | refine AC_drawnE (id := 1) tbRule0114_1 rfl (by kernel_rfl) ?_ | refine WE_cons (.inl ⟨rfl, m_idxN (i := 1) hty rfl rfl rfl rb rfl⟩) ?_ | refine WE_cons (.inl ⟨rfl, m_sliceL hty 1 (rsT t.kids).length rfl rfl ⟨_, 1, rfl, rfl⟩ rfl (by rw [rsT_length]; exact hk) (Nat.le_refl _) rfl⟩) ?_ | refine WE_cons (.inl ⟨rfl, m_call 0 rfl hin rfl rfl rfl⟩) ?_ | refine WE_cons (.inl ⟨rfl, stepE_ok hty rfl rfl⟩) ?_ | refine WE_cons (.inl ⟨rfl, m_idxN hty rfl rfl rfl (by assumption) rfl⟩) ?_ | refine WE_nil ⟨by kernel_rfl, ?_⟩ | refine WL_p hty rfl rfl ?_ | refine WL_nil ?_ | refine AC_seq ?_ | refine AC_region ?_ | refine AC_skip ?_ | refine AC_ret ?_ | refine ends_bool rfl ?_)
  exact ends_wk rfl rfl (.refl _)

end Go.Proofs.YtoknnfhgoikpiaaGreat

/-
  What a term's root is reduced to, over no constants: Look, Root, Is.
-/
namespace Go.Proofs.YtoknnfhgoikpiaaGreat
set_option linter.unusedSimpArgs false
set_option linter.unusedVariables false
open Go.Aw Go.RowKit
def tbRule171_15 : List (Nat × List Nat) := [(0, []), (1, [0]), (2, [0, 1]), (3, [0, 1, 2]), (4, []), (5, [4]), (6, [4, 5]), (7, [4, 5, 6]), (8, [4, 5, 6, 7]), (9, [4, 5, 6, 7, 8]), (10, [4, 5, 6, 7, 8, 9]), (11, [0, 1, 2, 3, 4, 5, 6, 7, 8, 9, 10]), (12, [0, 1, 2, 3, 4, 5, 6, 7, 8, 9, 10, 11]), (13, [0, 1, 2, 3, 4, 5, 6, 7, 8, 9, 10, 11, 12]), (14, [0, 1, 2, 3, 4, 5, 6, 7, 8, 9, 10, 11, 12, 13])]
attribute [local irreducible] WL AC WD WE MStep OkOp

theorem spN_formed : ∀ (n : Nat) (t : Tm) (acc : List Tm), formedT t = true → formedT (spN n t acc).1 = true
  | 0, t, acc, h => h
  | n + 1, t, acc, h => by
    by_cases h2 : twoB t 6 = true
    · obtain ⟨f, a, hk⟩ := two_kids h2
      rw [spN_step h2 hk]
      exact spN_formed n f _ (formedT_kids h (by rw [hk]; exact List.mem_cons_self))
    · have h2 : twoB t 6 = false := by simpa using h2
      rw [spN_end h2]; exact h
theorem formedT_num {t : Tm} (h : formedT t = true) : 0 ≤ t.num := by
  rw [formedT_eq] at h
  simp only [Bool.and_eq_true, Bool.or_eq_true, decide_eq_true_eq, inR] at h
  obtain ⟨⟨_, h2, h3⟩, _⟩ := h
  rcases h2 with h2 | h2
  · rcases h3 with h3 | h3
    · exact absurd h3 h2
    · omega
  · exact h2.1
theorem formedT_len {t : Tm} (h : formedT t = true) : (t.kids.length : Int) = kidsR t.kind := by
  rw [formedT_eq] at h
  simp only [Bool.and_eq_true, decide_eq_true_eq] at h
  exact h.1.1

theorem spine0_spec (t : Tm) (hs : t.size ≤ 1048576) (hfm : formedT t = true) : FC Tryz.prog 115 [sE [], aT t] .nilf := by
  have hsp := split_spec t hs
  have hof := of_spec [] (splitT t).1 (by simp) (fun _ => formedT_num (spN_formed t.size t [] hfm))
  have he : ofE [] (splitT t).1 = none := by unfold ofE; split <;> rfl
  rw [he] at hof
  refine FC_intro hty Tryz.func115 rfl rfl rfl fun w0 => ?_
  repeat' (first | refine WL_call 0 rfl hsp rfl rfl rfl ?_ | refine WL_call 0 rfl hof rfl rfl rfl ?_ | refine WL_p hty rfl rfl ?_ | refine WL_nil ?_ | refine AC_seq ?_ | refine AC_region ?_ | refine AC_skip ?_ | refine AC_condT rfl ?_ | refine AC_condF rfl ?_ | refine AC_ret ?_ | refine WL_ung rfl rfl ?_ | refine WL_offT rfl rfl rfl ?_ | refine WL_offF rfl rfl rfl ?_ | refine WL_offU rfl rfl rfl ?_ | refine ends_bool rfl ?_ | refine WL_cmp rfl rfl rfl rfl (fun _ => ?_) (fun _ => ?_) | refine AC_cond rfl (fun _ => ?_) (fun _ => ?_))
  exact ends_wk rfl rfl (.refl _)

def look0 (t : Tm) : Rx :=
  if t.kind = 6 then (match t.kids with
    | [f, _] => if f.kind = 5 then .inst f t else .none
    | _ => .none)
  else if t.kind = 9 then (match t.kids with
    | [p] => if p.kind = 8 then .done (p.kids.getD 1 zT) else .none
    | _ => .none)
  else if t.kind = 10 then (match t.kids with
    | [p] => if p.kind = 8 then .done (p.kids.getD 2 zT) else .none
    | _ => .none)
  else if t.kind = 13 then (match t.kids with
    | [_, b, r] => if r.kind = 12 then .done (.mk 6 0 [b, r.kids.getD 1 zT]) else .none
    | _ => .none)
  else .none

theorem kids2 {l : List Tm} (h : (l.length : Int) = 2) : ∃ a b, l = [a, b] := by
  match l, h with
  | [a, b], _ => exact ⟨a, b, rfl⟩
  | [], h => simp at h
  | [_], h => simp at h
  | _ :: _ :: _ :: _, h => simp at h; omega
theorem kids1 {l : List Tm} (h : (l.length : Int) = 1) : ∃ a, l = [a] := by
  match l, h with
  | [a], _ => exact ⟨a, rfl⟩
  | [], h => simp at h
  | _ :: _ :: _, h => simp at h; omega
theorem kids3 {l : List Tm} (h : (l.length : Int) = 3) : ∃ a b c, l = [a, b, c] := by
  match l, h with
  | [a, b, c], _ => exact ⟨a, b, c, rfl⟩
  | [], h => simp at h
  | [_], h => simp at h
  | [_, _], h => simp at h
  | _ :: _ :: _ :: _ :: _, h => simp at h; omega

set_option maxHeartbeats 4000000 in
theorem look0_spec (t : Tm) (hs : t.size ≤ 1048576) (hfm : formedT t = true) : FC Tryz.prog 71 [sE [], aT t] (rxAV (look0 t)) := by
  have hsz := t.size_eq
  have hlen := formedT_len hfm
  have hspn := spine0_spec t hs hfm
  by_cases k6 : t.kind = 6
  · obtain ⟨f, a, hk⟩ := kids2 (l := t.kids) (by rw [hlen, k6]; rfl)
    have r0 : (rsT t.kids)[0]? = some (cT f) := by rw [hk, rs2]; rfl
    have hl : look0 t = if f.kind = 5 then .inst f t else .none := by unfold look0; simp only [k6, hk]; rfl
    rw [hl]
    by_cases hf : f.kind = 5
    · rw [if_pos hf]
      refine FC_intro hty Tryz.func71 rfl rfl rfl fun w0 => ?_
      repeat' (first | exact absurd k6 ‹_› | exact absurd hf ‹_› | refine WL_m rfl (m_idxN (i := 0) hty rfl rfl rfl r0 rfl) ?_ | (refine WL_less (less_freezeBox 5 rfl rfl) ?_; refine WL_less (less_freezeBox 3 rfl rfl) ?_; refine WL_m rfl (m_makeFunc rfl rfl rfl) ?_) | refine WL_p hty rfl rfl ?_ | refine WL_nil ?_ | refine AC_seq ?_ | refine AC_region ?_ | refine AC_block ?_ | refine AC_skip ?_ | refine AC_condT rfl ?_ | refine AC_condF rfl ?_ | refine AC_ret ?_ | refine WL_ung rfl rfl ?_ | refine WL_offT rfl rfl rfl ?_ | refine WL_offF rfl rfl rfl ?_ | refine WL_offU rfl rfl rfl ?_ | refine WL_m rfl (m_idxN hty rfl rfl rfl (by assumption) rfl) ?_ | refine ends_bool rfl ?_ | refine WL_cmp rfl rfl rfl rfl (fun _ => ?_) (fun _ => ?_) | refine AC_cond rfl (fun _ => ?_) (fun _ => ?_))
      exact ends_wk rfl rfl (.refl _)
    · rw [if_neg hf]
      refine FC_intro hty Tryz.func71 rfl rfl rfl fun w0 => ?_
      repeat' (first | exact absurd k6 ‹_› | exact absurd (by assumption) hf | refine WL_m rfl (m_idxN (i := 0) hty rfl rfl rfl r0 rfl) ?_ | refine WL_call 0 rfl hspn rfl rfl rfl ?_ | refine WL_p hty rfl rfl ?_ | refine WL_nil ?_ | refine AC_seq ?_ | refine AC_region ?_ | refine AC_block ?_ | refine AC_skip ?_ | refine AC_condT rfl ?_ | refine AC_condF rfl ?_ | refine AC_ret ?_ | refine WL_ung rfl rfl ?_ | refine WL_offT rfl rfl rfl ?_ | refine WL_offF rfl rfl rfl ?_ | refine WL_offU rfl rfl rfl ?_ | refine WL_m rfl (m_idxN hty rfl rfl rfl (by assumption) rfl) ?_ | refine ends_bool rfl ?_ | refine WL_cmp rfl rfl rfl rfl (fun _ => ?_) (fun _ => ?_) | refine AC_cond rfl (fun _ => ?_) (fun _ => ?_))
      exact ends_wk rfl rfl (.refl _)
  by_cases k9 : t.kind = 9
  · obtain ⟨p, hk⟩ := kids1 (l := t.kids) (by rw [hlen, k9]; rfl)
    have r0 : (rsT t.kids)[0]? = some (cT p) := by rw [hk, rs1]; rfl
    have hl : look0 t = if p.kind = 8 then .done (p.kids.getD 1 zT) else .none := by unfold look0; simp only [k9, hk]; rfl
    rw [hl]
    by_cases hp : p.kind = 8
    · have hpf := formedT_kids hfm (show p ∈ t.kids by rw [hk]; exact List.mem_cons_self)
      obtain ⟨x, y, z, hpk⟩ := kids3 (l := p.kids) (by rw [formedT_len hpf, hp]; rfl)
      have q1 : (rsT p.kids)[1]? = some (cT y) := by rw [hpk, rs3]; rfl
      rw [if_pos hp, hpk]
      refine FC_intro hty Tryz.func71 rfl rfl rfl fun w0 => ?_
      repeat' (first | exact absurd (by assumption) k6 | exact absurd k9 ‹_› | exact absurd hp ‹_› | refine WL_m rfl (m_idxN (i := 0) hty rfl rfl rfl r0 rfl) ?_ | refine WL_m rfl (m_idxN (i := 1) hty rfl rfl rfl q1 rfl) ?_ | refine WL_call 0 rfl (done_spec y) rfl rfl rfl ?_ | refine WL_p hty rfl rfl ?_ | refine WL_nil ?_ | refine AC_seq ?_ | refine AC_region ?_ | refine AC_block ?_ | refine AC_skip ?_ | refine AC_condT rfl ?_ | refine AC_condF rfl ?_ | refine AC_ret ?_ | refine WL_ung rfl rfl ?_ | refine WL_offT rfl rfl rfl ?_ | refine WL_offF rfl rfl rfl ?_ | refine WL_offU rfl rfl rfl ?_ | refine WL_m rfl (m_idxN hty rfl rfl rfl (by assumption) rfl) ?_ | refine ends_bool rfl ?_ | refine WL_cmp rfl rfl rfl rfl (fun _ => ?_) (fun _ => ?_) | refine AC_cond rfl (fun _ => ?_) (fun _ => ?_))
      exact ends_wk rfl rfl (.refl _)
    · rw [if_neg hp]
      refine FC_intro hty Tryz.func71 rfl rfl rfl fun w0 => ?_
      repeat' (first | exact absurd (by assumption) k6 | exact absurd k9 ‹_› | exact absurd (by assumption) hp | refine WL_m rfl (m_idxN (i := 0) hty rfl rfl rfl r0 rfl) ?_ | refine WL_p hty rfl rfl ?_ | refine WL_nil ?_ | refine AC_seq ?_ | refine AC_region ?_ | refine AC_block ?_ | refine AC_skip ?_ | refine AC_condT rfl ?_ | refine AC_condF rfl ?_ | refine AC_ret ?_ | refine WL_ung rfl rfl ?_ | refine WL_offT rfl rfl rfl ?_ | refine WL_offF rfl rfl rfl ?_ | refine WL_offU rfl rfl rfl ?_ | refine WL_m rfl (m_idxN hty rfl rfl rfl (by assumption) rfl) ?_ | refine ends_bool rfl ?_ | refine WL_cmp rfl rfl rfl rfl (fun _ => ?_) (fun _ => ?_) | refine AC_cond rfl (fun _ => ?_) (fun _ => ?_))
      exact ends_wk rfl rfl (.refl _)
  by_cases k10 : t.kind = 10
  · obtain ⟨p, hk⟩ := kids1 (l := t.kids) (by rw [hlen, k10]; rfl)
    have r0 : (rsT t.kids)[0]? = some (cT p) := by rw [hk, rs1]; rfl
    have hl : look0 t = if p.kind = 8 then .done (p.kids.getD 2 zT) else .none := by unfold look0; simp only [k10, hk]; rfl
    rw [hl]
    by_cases hp : p.kind = 8
    · have hpf := formedT_kids hfm (show p ∈ t.kids by rw [hk]; exact List.mem_cons_self)
      obtain ⟨x, y, z, hpk⟩ := kids3 (l := p.kids) (by rw [formedT_len hpf, hp]; rfl)
      have q1 : (rsT p.kids)[2]? = some (cT z) := by rw [hpk, rs3]; rfl
      rw [if_pos hp, hpk]
      refine FC_intro hty Tryz.func71 rfl rfl rfl fun w0 => ?_
      repeat' (first | exact absurd (by assumption) k6 | exact absurd (by assumption) k9 | exact absurd k10 ‹_› | exact absurd hp ‹_› | refine WL_m rfl (m_idxN (i := 0) hty rfl rfl rfl r0 rfl) ?_ | refine WL_m rfl (m_idxN (i := 2) hty rfl rfl rfl q1 rfl) ?_ | refine WL_call 0 rfl (done_spec z) rfl rfl rfl ?_ | refine WL_p hty rfl rfl ?_ | refine WL_nil ?_ | refine AC_seq ?_ | refine AC_region ?_ | refine AC_block ?_ | refine AC_skip ?_ | refine AC_condT rfl ?_ | refine AC_condF rfl ?_ | refine AC_ret ?_ | refine WL_ung rfl rfl ?_ | refine WL_offT rfl rfl rfl ?_ | refine WL_offF rfl rfl rfl ?_ | refine WL_offU rfl rfl rfl ?_ | refine WL_m rfl (m_idxN hty rfl rfl rfl (by assumption) rfl) ?_ | refine ends_bool rfl ?_ | refine WL_cmp rfl rfl rfl rfl (fun _ => ?_) (fun _ => ?_) | refine AC_cond rfl (fun _ => ?_) (fun _ => ?_))
      exact ends_wk rfl rfl (.refl _)
    · rw [if_neg hp]
      refine FC_intro hty Tryz.func71 rfl rfl rfl fun w0 => ?_
      repeat' (first | exact absurd (by assumption) k6 | exact absurd (by assumption) k9 | exact absurd k10 ‹_› | exact absurd (by assumption) hp | refine WL_m rfl (m_idxN (i := 0) hty rfl rfl rfl r0 rfl) ?_ | refine WL_p hty rfl rfl ?_ | refine WL_nil ?_ | refine AC_seq ?_ | refine AC_region ?_ | refine AC_block ?_ | refine AC_skip ?_ | refine AC_condT rfl ?_ | refine AC_condF rfl ?_ | refine AC_ret ?_ | refine WL_ung rfl rfl ?_ | refine WL_offT rfl rfl rfl ?_ | refine WL_offF rfl rfl rfl ?_ | refine WL_offU rfl rfl rfl ?_ | refine WL_m rfl (m_idxN hty rfl rfl rfl (by assumption) rfl) ?_ | refine ends_bool rfl ?_ | refine WL_cmp rfl rfl rfl rfl (fun _ => ?_) (fun _ => ?_) | refine AC_cond rfl (fun _ => ?_) (fun _ => ?_))
      exact ends_wk rfl rfl (.refl _)
  by_cases k13 : t.kind = 13
  · obtain ⟨a, b, r, hk⟩ := kids3 (l := t.kids) (by rw [hlen, k13]; rfl)
    have r1 : (rsT t.kids)[1]? = some (cT b) := by rw [hk, rs3]; rfl
    have r2 : (rsT t.kids)[2]? = some (cT r) := by rw [hk, rs3]; rfl
    have hl : look0 t = if r.kind = 12 then .done (.mk 6 0 [b, r.kids.getD 1 zT]) else .none := by unfold look0; simp only [k13, hk]; rfl
    rw [hl]
    by_cases hp : r.kind = 12
    · have hpf := formedT_kids hfm (show r ∈ t.kids by rw [hk]; simp)
      obtain ⟨x, y, hpk⟩ := kids2 (l := r.kids) (by rw [formedT_len hpf, hp]; rfl)
      have q1 : (rsT r.kids)[1]? = some (cT y) := by rw [hpk, rs2]; rfl
      rw [if_pos hp, hpk]
      have hnd := (tnode_spec 6 [b, y]).args (xs := [.int .i64 6, .lst 3 [cT b, cT y] true]) (.cons (.refl _) (.cons (by rw [← rs2]; exact .full _ _ _) .nil))
      refine FC_intro hty Tryz.func71 rfl rfl rfl fun w0 => ?_
      repeat' (first | exact absurd (by assumption) k6 | exact absurd (by assumption) k9 | exact absurd (by assumption) k10 | exact absurd k13 ‹_› | exact absurd hp ‹_› | refine WL_m rfl (m_idxN (i := 2) hty rfl rfl rfl r2 rfl) ?_ | refine AC_drawnE (id := 15) tbRule171_15 rfl (by kernel_rfl) ?_ | refine WE_cons (.inl ⟨rfl, m_idxN (i := 1) hty rfl rfl rfl r1 rfl⟩) ?_ | refine WE_cons (.inl ⟨rfl, m_idxN (i := 2) hty rfl rfl rfl r2 rfl⟩) ?_ | refine WE_cons (.inl ⟨rfl, m_idxN (i := 1) hty rfl rfl rfl q1 rfl⟩) ?_ | refine WE_cons (.inl ⟨rfl, m_call 0 rfl hnd rfl rfl rfl⟩) ?_ | refine WE_cons (.inl ⟨rfl, m_call 0 rfl (done_spec _) rfl rfl rfl⟩) ?_ | refine WE_cons (.inl ⟨rfl, stepE_ok hty rfl rfl⟩) ?_ | refine WE_cons (.inl ⟨rfl, m_idxN hty rfl rfl rfl (by assumption) rfl⟩) ?_ | refine WE_nil ⟨by kernel_rfl, ?_⟩ | refine WL_p hty rfl rfl ?_ | refine WL_nil ?_ | refine AC_seq ?_ | refine AC_region ?_ | refine AC_block ?_ | refine AC_skip ?_ | refine AC_condT rfl ?_ | refine AC_condF rfl ?_ | refine AC_ret ?_ | refine WL_ung rfl rfl ?_ | refine WL_offT rfl rfl rfl ?_ | refine WL_offF rfl rfl rfl ?_ | refine WL_offU rfl rfl rfl ?_ | refine WL_m rfl (m_idxN hty rfl rfl rfl (by assumption) rfl) ?_ | refine ends_bool rfl ?_ | refine WL_cmp rfl rfl rfl rfl (fun _ => ?_) (fun _ => ?_) | refine AC_cond rfl (fun _ => ?_) (fun _ => ?_))
      exact ends_wk rfl rfl (.refl _)
    · rw [if_neg hp]
      refine FC_intro hty Tryz.func71 rfl rfl rfl fun w0 => ?_
      repeat' (first | exact absurd (by assumption) k6 | exact absurd (by assumption) k9 | exact absurd (by assumption) k10 | exact absurd k13 ‹_› | exact absurd (by assumption) hp | refine WL_m rfl (m_idxN (i := 2) hty rfl rfl rfl r2 rfl) ?_ | refine WL_p hty rfl rfl ?_ | refine WL_nil ?_ | refine AC_seq ?_ | refine AC_region ?_ | refine AC_block ?_ | refine AC_skip ?_ | refine AC_condT rfl ?_ | refine AC_condF rfl ?_ | refine AC_ret ?_ | refine WL_ung rfl rfl ?_ | refine WL_offT rfl rfl rfl ?_ | refine WL_offF rfl rfl rfl ?_ | refine WL_offU rfl rfl rfl ?_ | refine WL_m rfl (m_idxN hty rfl rfl rfl (by assumption) rfl) ?_ | refine ends_bool rfl ?_ | refine WL_cmp rfl rfl rfl rfl (fun _ => ?_) (fun _ => ?_) | refine AC_cond rfl (fun _ => ?_) (fun _ => ?_))
      exact ends_wk rfl rfl (.refl _)
  have hl : look0 t = .none := by
    unfold look0
    rw [if_neg k6, if_neg k9, if_neg k10, if_neg k13]
  rw [hl]
  by_cases k3 : t.kind = 3
  · have hof := of_spec [] t (by simp) (fun _ => formedT_num hfm)
    have he : ofE [] t = none := by unfold ofE; split <;> rfl
    rw [he] at hof
    refine FC_intro hty Tryz.func71 rfl rfl rfl fun w0 => ?_
    repeat' (first | exact absurd (by assumption) k6 | exact absurd (by assumption) k9 | exact absurd (by assumption) k10 | exact absurd (by assumption) k13 | exact absurd k3 ‹_› | refine WL_call 0 rfl hof rfl rfl rfl ?_ | refine WL_p hty rfl rfl ?_ | refine WL_nil ?_ | refine AC_seq ?_ | refine AC_region ?_ | refine AC_block ?_ | refine AC_skip ?_ | refine AC_condT rfl ?_ | refine AC_condF rfl ?_ | refine AC_ret ?_ | refine WL_ung rfl rfl ?_ | refine WL_offT rfl rfl rfl ?_ | refine WL_offF rfl rfl rfl ?_ | refine WL_offU rfl rfl rfl ?_ | refine WL_m rfl (m_idxN hty rfl rfl rfl (by assumption) rfl) ?_ | refine ends_bool rfl ?_ | refine WL_cmp rfl rfl rfl rfl (fun _ => ?_) (fun _ => ?_) | refine AC_cond rfl (fun _ => ?_) (fun _ => ?_))
    exact ends_wk rfl rfl (.refl _)
  · refine FC_intro hty Tryz.func71 rfl rfl rfl fun w0 => ?_
    repeat' (first | exact absurd (by assumption) k6 | exact absurd (by assumption) k9 | exact absurd (by assumption) k10 | exact absurd (by assumption) k13 | exact absurd (by assumption) k3 | refine WL_p hty rfl rfl ?_ | refine WL_nil ?_ | refine AC_seq ?_ | refine AC_region ?_ | refine AC_block ?_ | refine AC_skip ?_ | refine AC_condT rfl ?_ | refine AC_condF rfl ?_ | refine AC_ret ?_ | refine WL_ung rfl rfl ?_ | refine WL_offT rfl rfl rfl ?_ | refine WL_offF rfl rfl rfl ?_ | refine WL_offU rfl rfl rfl ?_ | refine WL_m rfl (m_idxN hty rfl rfl rfl (by assumption) rfl) ?_ | refine ends_bool rfl ?_ | refine WL_cmp rfl rfl rfl rfl (fun _ => ?_) (fun _ => ?_) | refine AC_cond rfl (fun _ => ?_) (fun _ => ?_))
    exact ends_wk rfl rfl (.refl _)

end Go.Proofs.YtoknnfhgoikpiaaGreat

/-
  What a term's root is reduced to, over no constants: Root, Is.
-/
namespace Go.Proofs.YtoknnfhgoikpiaaGreat
set_option linter.unusedSimpArgs false
set_option linter.unusedVariables false
open Go.Aw Go.RowKit
attribute [local irreducible] WL AC WD WE MStep OkOp

def root0 (t : Tm) : Tm × Int := if checkT t ≠ 0 then (zT, checkT t) else match look0 t with
  | .none => (zT, 10)
  | .inst f u => if (instT (f.kids.getD 1 zT) (u.kids.drop 1) 0).2 ≠ 0 then (zT, (instT (f.kids.getD 1 zT) (u.kids.drop 1) 0).2) else ((instT (f.kids.getD 1 zT) (u.kids.drop 1) 0).1, 0)
  | .done u => (u, 0)
def isRx : Rx → Bool
  | .none => false
  | _ => true
def is0 (t : Tm) : Bool := decide (checkT t = 0) && isRx (look0 t)

theorem look0_inst {t f u : Tm} (h : look0 t = .inst f u) : u = t ∧ f.kind = 5 ∧ ∃ a, t.kids = [f, a] := by
  unfold look0 at h
  split at h
  · split at h
    · rename_i g a hk
      split at h
      · rename_i h5
        obtain ⟨rfl, rfl⟩ := Rx.inst.inj h
        exact ⟨rfl, h5, a, hk⟩
      · cases h
    · cases h
  · split at h
    · split at h
      · split at h <;> cases h
      · cases h
    · split at h
      · split at h
        · split at h <;> cases h
        · cases h
      · split at h
        · split at h
          · split at h <;> cases h
          · cases h
        · cases h
theorem size_getD (l : List Tm) (i : Nat) : (l.getD i zT).size ≤ 1 + sizes l := by
  rw [List.getD_eq_getElem?_getD]
  cases h : l[i]? with
  | none => simp [zT, Tm.size, sizes]
  | some a => have := size_le_sizes (List.mem_of_getElem? h); simp only [Option.getD_some]; omega
theorem look0_done {t u : Tm} (h : look0 t = .done u) : u.size ≤ t.size + 2 := by
  have ht := t.size_eq
  unfold look0 at h
  split at h
  · split at h
    · split at h <;> cases h
    · cases h
  · split at h
    · split at h
      · rename_i p hk
        split at h
        · cases h
          have := size_getD p.kids 1
          rw [hk] at ht
          have hp := p.size_eq
          simp only [sizes] at ht
          omega
        · cases h
      · cases h
    · split at h
      · split at h
        · rename_i p hk
          split at h
          · cases h
            have := size_getD p.kids 2
            rw [hk] at ht
            have hp := p.size_eq
            simp only [sizes] at ht
            omega
          · cases h
        · cases h
      · split at h
        · split at h
          · rename_i a b r hk
            split at h
            · cases h
              have := size_getD r.kids 1
              rw [hk] at ht
              have hp := r.size_eq
              have ha := a.size_pos
              simp only [sizes] at ht
              simp only [Tm.size, sizes]
              omega
            · cases h
          · cases h
        · cases h

attribute [local irreducible] isFnT

set_option maxHeartbeats 4000000 in
theorem root0_spec (t : Tm) (hs : t.size ≤ 1000000) (f : Bool) (es : Nat) : FC Tryz.prog 19 [.lst es [] f, aT t] (.tup [aT (root0 t).1, .int .i64 (root0 t).2]) := by
  have hck := check0_spec es f
  have htc := tcheck_spec t (by omega)
  by_cases hc : checkT t = 0
  · obtain ⟨hc1, hc2, hc3⟩ := checkT_ok hc
    have hlk := (look0_spec t (by omega) hc3).args (xs := [.lst es [] f, aT t]) (.cons (.nilF _ _ _) (.cons (.refl _) .nil))
    rw [hc] at htc
    have hr : root0 t = match look0 t with
      | .none => (zT, 10)
      | .inst f u => if (instT (f.kids.getD 1 zT) (u.kids.drop 1) 0).2 ≠ 0 then (zT, (instT (f.kids.getD 1 zT) (u.kids.drop 1) 0).2) else ((instT (f.kids.getD 1 zT) (u.kids.drop 1) 0).1, 0)
      | .done u => (u, 0) := by unfold root0; rw [if_neg (by omega)]
    cases h : look0 t with
    | none =>
      rw [h] at hlk hr
      rw [hr]
      refine FC_intro hty Tryz.func19 rfl rfl rfl fun w0 => ?_
      repeat' (first | exact absurd rfl ‹_› | refine WL_call 0 rfl hck rfl rfl rfl ?_ | refine WL_call 0 rfl htc rfl rfl rfl ?_ | refine WL_call 0 rfl hlk rfl rfl rfl ?_ | (refine WL_m rfl (m_eqNil (v := rxAV .none) ?_ rfl ?_ hfn41 rfl) ?_; (focus rfl); (focus rfl)) | refine WL_p hty rfl rfl ?_ | refine WL_nil ?_ | refine AC_seq ?_ | refine AC_region ?_ | refine AC_skip ?_ | refine AC_condT rfl ?_ | refine AC_condF rfl ?_ | refine AC_ret ?_ | refine ends_bool rfl ?_ | refine WL_cmp rfl rfl rfl rfl (fun _ => ?_) (fun _ => ?_) | refine AC_cond rfl (fun _ => ?_) (fun _ => ?_))
      refine ends_wk rfl rfl (.tup (.cons (.agg ?_) (.cons (.refl _) .nil)))
      repeat' (first | exact Wks.nil | refine Wks.cons (Wk.refl _) ?_ | refine Wks.cons (Wk.full _ _ _) ?_ | refine Wks.cons (Wk.nilF _ _ _) ?_)
    | inst g u =>
      rw [h] at hlk hr
      obtain ⟨rfl, h5, a, hk⟩ := look0_inst h
      have hgf := formedT_kids hc3 (show g ∈ u.kids by rw [hk]; exact List.mem_cons_self)
      obtain ⟨x, b, hgk⟩ := kids2 (l := g.kids) (by rw [formedT_len hgf, h5]; rfl)
      have hsz := u.size_eq
      have hgs := size_le_sizes (show g ∈ u.kids by rw [hk]; exact List.mem_cons_self)
      have hb : g.kids.getD 1 zT = b := by rw [hgk]; rfl
      have hl1 := look1_spec g u b (by rw [hgk]; rfl) (by rw [hk]; simp) (by omega) (by omega)
      replace hr : root0 u = if (instT (g.kids.getD 1 zT) (u.kids.drop 1) 0).2 ≠ 0 then (zT, (instT (g.kids.getD 1 zT) (u.kids.drop 1) 0).2) else ((instT (g.kids.getD 1 zT) (u.kids.drop 1) 0).1, 0) := hr
      rw [hb] at hr
      have hisz := inst_size b (u.kids.drop 1) 0
      have htw := twin_spec (instT b (u.kids.drop 1) 0).1 (by omega)
      rw [hr]
      refine FC_intro hty Tryz.func19 rfl rfl rfl fun w0 => ?_
      repeat' (first | exact absurd rfl ‹_› | refine WL_call 0 rfl hck rfl rfl rfl ?_ | refine WL_call 0 rfl htc rfl rfl rfl ?_ | refine WL_call 0 rfl hlk rfl rfl rfl ?_ | refine WL_call 0 rfl htw rfl rfl rfl ?_ | (refine WL_m rfl (m_eqNil (v := rxAV (.inst g u)) ?_ rfl ?_ hfn41 rfl) ?_; (focus rfl); (focus rfl)) | refine WL_m rfl (m_callF 0 rfl rfl rfl hl1 rfl rfl rfl) ?_ | refine WL_p hty rfl rfl ?_ | refine WL_nil ?_ | refine AC_seq ?_ | refine AC_region ?_ | refine AC_skip ?_ | refine AC_condT rfl ?_ | refine AC_condF rfl ?_ | refine AC_ret ?_ | refine ends_bool rfl ?_ | refine WL_cmp rfl rfl rfl rfl (fun _ => ?_) (fun _ => ?_) | refine AC_cond rfl (fun _ => ?_) (fun _ => ?_))
      · rw [if_pos (by assumption)]
        refine ends_wk rfl rfl (.tup (.cons (.agg ?_) (.cons (.refl _) .nil)))
        repeat' (first | exact Wks.nil | refine Wks.cons (Wk.refl _) ?_ | refine Wks.cons (Wk.full _ _ _) ?_ | refine Wks.cons (Wk.nilF _ _ _) ?_)
      · rw [if_neg (by assumption)]
        exact ends_wk rfl rfl (.refl _)
    | done u =>
      rw [h] at hlk hr
      have hus := look0_done h
      have htw := twin_spec u (by omega)
      have hd1 := done1_spec u
      rw [hr]
      refine FC_intro hty Tryz.func19 rfl rfl rfl fun w0 => ?_
      repeat' (first | exact absurd rfl ‹_› | refine WL_call 0 rfl hck rfl rfl rfl ?_ | refine WL_call 0 rfl htc rfl rfl rfl ?_ | refine WL_call 0 rfl hlk rfl rfl rfl ?_ | refine WL_call 0 rfl htw rfl rfl rfl ?_ | (refine WL_m rfl (m_eqNil (v := rxAV (.done u)) ?_ rfl ?_ hfn41 rfl) ?_; (focus rfl); (focus rfl)) | refine WL_m rfl (m_callF 0 rfl rfl rfl hd1 rfl rfl rfl) ?_ | refine WL_p hty rfl rfl ?_ | refine WL_nil ?_ | refine AC_seq ?_ | refine AC_region ?_ | refine AC_skip ?_ | refine AC_condT rfl ?_ | refine AC_condF rfl ?_ | refine AC_ret ?_ | refine ends_bool rfl ?_ | refine WL_cmp rfl rfl rfl rfl (fun _ => ?_) (fun _ => ?_) | refine AC_cond rfl (fun _ => ?_) (fun _ => ?_))
      exact ends_wk rfl rfl (.refl _)
  · have hr : root0 t = (zT, checkT t) := by unfold root0; rw [if_pos hc]
    rw [hr]
    refine FC_intro hty Tryz.func19 rfl rfl rfl fun w0 => ?_
    repeat' (first | exact absurd rfl ‹_› | exact absurd hc ‹_› | refine WL_call 0 rfl hck rfl rfl rfl ?_ | refine WL_call 0 rfl htc rfl rfl rfl ?_ | refine WL_p hty rfl rfl ?_ | refine WL_nil ?_ | refine AC_seq ?_ | refine AC_region ?_ | refine AC_skip ?_ | refine AC_condT rfl ?_ | refine AC_condF rfl ?_ | refine AC_ret ?_ | refine ends_bool rfl ?_ | refine WL_cmp rfl rfl rfl rfl (fun _ => ?_) (fun _ => ?_) | refine AC_cond rfl (fun _ => ?_) (fun _ => ?_))
    refine ends_wk rfl rfl (.tup (.cons (.agg ?_) (.cons (.refl _) .nil)))
    repeat' (first | exact Wks.nil | refine Wks.cons (Wk.refl _) ?_ | refine Wks.cons (Wk.full _ _ _) ?_ | refine Wks.cons (Wk.nilF _ _ _) ?_)

set_option maxHeartbeats 4000000 in
theorem is0_spec (t : Tm) (hs : t.size ≤ 1000000) (f : Bool) (es : Nat) : FC Tryz.prog 20 [.lst es [] f, aT t] (.bool (is0 t)) := by
  have hck := check0_spec es f
  have htc := tcheck_spec t (by omega)
  unfold is0
  by_cases hc : checkT t = 0
  · obtain ⟨hc1, hc2, hc3⟩ := checkT_ok hc
    have hlk := (look0_spec t (by omega) hc3).args (xs := [.lst es [] f, aT t]) (.cons (.nilF _ _ _) (.cons (.refl _) .nil))
    rw [hc] at htc ⊢
    cases h : look0 t with
    | none =>
      rw [h] at hlk
      refine FC_intro hty Tryz.func20 rfl rfl rfl fun w0 => ?_
      repeat' (first | exact absurd rfl ‹_› | refine WL_call 0 rfl hck rfl rfl rfl ?_ | refine WL_call 0 rfl htc rfl rfl rfl ?_ | refine WL_call 0 rfl hlk rfl rfl rfl ?_ | (refine WL_m rfl (m_neNil (v := rxAV .none) ?_ rfl ?_ hfn41 rfl) ?_; (focus rfl); (focus rfl)) | refine WL_p hty rfl rfl ?_ | refine WL_nil ?_ | refine AC_seq ?_ | refine AC_region ?_ | refine AC_skip ?_ | refine AC_ret ?_ | refine WL_ung rfl rfl ?_ | refine WL_offT rfl rfl rfl ?_ | refine WL_offF rfl rfl rfl ?_ | refine WL_offU rfl rfl rfl ?_ | refine ends_bool rfl ?_ | refine WL_cmp rfl rfl rfl rfl (fun _ => ?_) (fun _ => ?_))
      rfl
    | inst g u =>
      rw [h] at hlk
      refine FC_intro hty Tryz.func20 rfl rfl rfl fun w0 => ?_
      repeat' (first | exact absurd rfl ‹_› | refine WL_call 0 rfl hck rfl rfl rfl ?_ | refine WL_call 0 rfl htc rfl rfl rfl ?_ | refine WL_call 0 rfl hlk rfl rfl rfl ?_ | (refine WL_m rfl (m_neNil (v := rxAV (.inst g u)) ?_ rfl ?_ hfn41 rfl) ?_; (focus rfl); (focus rfl)) | refine WL_p hty rfl rfl ?_ | refine WL_nil ?_ | refine AC_seq ?_ | refine AC_region ?_ | refine AC_skip ?_ | refine AC_ret ?_ | refine WL_ung rfl rfl ?_ | refine WL_offT rfl rfl rfl ?_ | refine WL_offF rfl rfl rfl ?_ | refine WL_offU rfl rfl rfl ?_ | refine ends_bool rfl ?_ | refine WL_cmp rfl rfl rfl rfl (fun _ => ?_) (fun _ => ?_))
      rfl
    | done u =>
      rw [h] at hlk
      refine FC_intro hty Tryz.func20 rfl rfl rfl fun w0 => ?_
      repeat' (first | exact absurd rfl ‹_› | refine WL_call 0 rfl hck rfl rfl rfl ?_ | refine WL_call 0 rfl htc rfl rfl rfl ?_ | refine WL_call 0 rfl hlk rfl rfl rfl ?_ | (refine WL_m rfl (m_neNil (v := rxAV (.done u)) ?_ rfl ?_ hfn41 rfl) ?_; (focus rfl); (focus rfl)) | refine WL_p hty rfl rfl ?_ | refine WL_nil ?_ | refine AC_seq ?_ | refine AC_region ?_ | refine AC_skip ?_ | refine AC_ret ?_ | refine WL_ung rfl rfl ?_ | refine WL_offT rfl rfl rfl ?_ | refine WL_offF rfl rfl rfl ?_ | refine WL_offU rfl rfl rfl ?_ | refine ends_bool rfl ?_ | refine WL_cmp rfl rfl rfl rfl (fun _ => ?_) (fun _ => ?_))
      rfl
  · refine FC_intro hty Tryz.func20 rfl rfl rfl fun w0 => ?_
    repeat' (first | exact absurd rfl ‹_› | exact absurd (by assumption) hc | refine WL_call 0 rfl hck rfl rfl rfl ?_ | refine WL_call 0 rfl htc rfl rfl rfl ?_ | refine WL_p hty rfl rfl ?_ | refine WL_nil ?_ | refine AC_seq ?_ | refine AC_region ?_ | refine AC_skip ?_ | refine AC_ret ?_ | refine WL_ung rfl rfl ?_ | refine WL_offT rfl rfl rfl ?_ | refine WL_offF rfl rfl rfl ?_ | refine WL_offU rfl rfl rfl ?_ | refine ends_bool rfl ?_ | refine WL_cmp rfl rfl rfl rfl (fun _ => ?_) (fun _ => ?_))
    rw [decide_eq_false hc]; rfl

end Go.Proofs.YtoknnfhgoikpiaaGreat
