/-
  The program's terms: whether a term is right; variables, nodes.
-/
import Derived.Test.YtpnjflimilamdaaGreatTerm
namespace Go.Proofs.YtpnjflimilamdaaGreat
set_option linter.unusedSimpArgs false
set_option linter.unusedVariables false
open Go.Aw Go.RowKit
attribute [local irreducible] WL AC WD MStep OkOp

theorem all_not_any {α : Type} (p : α → Bool) (l : List α) : l.all p = !(l.any fun k => !p k) := by
  induction l with
  | nil => rfl
  | cons a l ih => simp only [List.all_cons, List.any_cons, Bool.not_or, Bool.not_not, ih]
theorem tformed_step (n : Nat) (hn : n ≤ 1048576) (ih : ∀ t : Tm, t.size ≤ n → FC Tryz.prog 35 [aT t] (.bool (formedT t))) (t : Tm) (ht : t.size ≤ n + 1) (ht2 : t.size ≤ 1048576) : FC Tryz.prog 35 [aT t] (.bool (formedT t)) := by
  have hs := t.size_eq
  have hlen := len_le_sizes t.kids
  have hfe := formedT_eq t
  have h1 : ∀ k : Tm, k.size ≤ n → FC Tryz.prog 62 [aT k] (.bool (!formedT k)) := by
    intro k hk
    refine FC_intro hty Tryz.func62 rfl rfl rfl fun w0 => ?_
    repeat' (first
      | refine WL_callB rfl (ih k hk) rfl (fun _ => ?_) (fun _ => ?_)
      | refine WL_p hty rfl rfl ?_
      | refine WL_nil ?_
      | refine AC_seq ?_
      | refine AC_region ?_
      | refine AC_block ?_
      | refine AC_skip ?_
      | refine AC_condT rfl ?_
      | refine AC_condF rfl ?_
      | refine AC_exit ?_
      | refine AC_ret ?_
      | refine WL_ung rfl rfl ?_
      | refine WL_offT rfl rfl rfl ?_
      | refine WL_offF rfl rfl rfl ?_
      | refine WL_offU rfl rfl rfl ?_
      | refine WL_m rfl (m_idxN hty rfl rfl rfl (by assumption) rfl) ?_
      | refine ends_bool rfl ?_
      | refine WL_cmp rfl rfl rfl rfl (fun _ => ?_) (fun _ => ?_)
      | refine AC_cond rfl (fun _ => ?_) (fun _ => ?_))
    all_goals simp [*]
  have hcf := containsFunc_spec 62 [] rfl (fun k => !formedT k) t.kids (by omega) (fun k hk => h1 k (by have := size_le_sizes hk; omega))
  refine FC_intro hty Tryz.func35 rfl rfl rfl fun w0 => ?_
  repeat' (first
    | refine WL_call 0 rfl (kkids_spec _) rfl rfl rfl ?_
    | refine WL_callB rfl hcf rfl (fun _ => ?_) (fun _ => ?_)
    | refine WL_p hty rfl rfl ?_
    | refine WL_nil ?_
    | refine AC_seq ?_
    | refine AC_region ?_
    | refine AC_block ?_
    | refine AC_skip ?_
    | refine AC_condT rfl ?_
    | refine AC_condF rfl ?_
    | refine AC_exit ?_
    | refine AC_ret ?_
    | refine WL_ung rfl rfl ?_
    | refine WL_offT rfl rfl rfl ?_
    | refine WL_offF rfl rfl rfl ?_
    | refine WL_offU rfl rfl rfl ?_
    | refine WL_m rfl (m_idxN hty rfl rfl rfl (by assumption) rfl) ?_
    | refine ends_bool rfl ?_
    | refine WL_cmp rfl rfl rfl rfl (fun _ => ?_) (fun _ => ?_)
    | refine AC_cond rfl (fun _ => ?_) (fun _ => ?_))
  all_goals (try rw [rsT_length] at *)
  all_goals first
    | (rw [hfe, eq_comm, Bool.eq_false_iff]
       intro q
       simp only [Bool.and_eq_true, Bool.or_eq_true, decide_eq_true_eq, inR] at q
       obtain ⟨⟨q1, q2, q3⟩, q4⟩ := q
       rcases q2 with q2 | q2 <;> rcases q3 with q3 | q3 <;> first | omega | simp_all)
    | skip
  all_goals
    have hsh : (decide ((t.kids.length : Int) = kidsR t.kind) && ((decide (t.kids.length ≠ 0) || inR t.num 0 65535) && (decide (t.kids.length = 0) || decide (t.num = 0)))) = true := by
      simp only [Bool.and_eq_true, Bool.or_eq_true, decide_eq_true_eq, inR]
      refine ⟨by omega, ?_, ?_⟩ <;> first | (left; omega) | (right; omega) | (right; assumption)
    rw [hsh, Bool.true_and] at hfe
    rw [hfe]
    rename_i hq
    rw [all_not_any, hq]

theorem tformed_all : ∀ n, n ≤ 1048576 → ∀ t : Tm, t.size ≤ n → FC Tryz.prog 35 [aT t] (.bool (formedT t)) := by
  intro n
  induction n with
  | zero => intro hn t ht; have := t.size_pos; omega
  | succ n ih => exact fun hn t ht => tformed_step n (by omega) (ih (by omega)) t ht (by omega)
theorem tformed_spec (t : Tm) (h : t.size ≤ 1048576) : FC Tryz.prog 35 [aT t] (.bool (formedT t)) := tformed_all 1048576 (by omega) t h

theorem tcheck_spec (t : Tm) (h : t.size ≤ 1048576) : FC Tryz.prog 16 [aT t] (.int .i64 (checkT t)) := by
  refine FC_intro hty Tryz.func16 rfl rfl rfl fun w0 => ?_
  repeat' (first
    | refine WL_call 0 rfl (tsize_spec t h) rfl rfl rfl ?_
    | refine WL_call 0 rfl (tdepth_spec t h) rfl rfl rfl ?_
    | refine WL_callB rfl (tformed_spec t h) rfl (fun _ => ?_) (fun _ => ?_)
    | refine WL_p hty rfl rfl ?_
    | refine WL_nil ?_
    | refine AC_seq ?_
    | refine AC_region ?_
    | refine AC_block ?_
    | refine AC_skip ?_
    | refine AC_condT rfl ?_
    | refine AC_condF rfl ?_
    | refine AC_exit ?_
    | refine AC_ret ?_
    | refine WL_ung rfl rfl ?_
    | refine WL_offT rfl rfl rfl ?_
    | refine WL_offF rfl rfl rfl ?_
    | refine WL_offU rfl rfl rfl ?_
    | refine WL_m rfl (m_idxN hty rfl rfl rfl (by assumption) rfl) ?_
    | refine ends_bool rfl ?_
    | refine WL_cmp rfl rfl rfl rfl (fun _ => ?_) (fun _ => ?_)
    | refine AC_cond rfl (fun _ => ?_) (fun _ => ?_))
  all_goals refine ends_int rfl ?_
  all_goals unfold checkT
  · rw [if_pos (by omega)]
  · rw [if_neg (by omega), if_pos (by omega)]
  · rw [if_neg (by omega), if_neg (by omega), if_pos (by assumption)]
  · rw [if_neg (by omega), if_neg (by omega), if_neg (by simp [*])]

theorem tv_spec (n : Int) : FC Tryz.prog 24 [.int .i64 n] (aT (.mk 1 n [])) := by
  refine FC_intro hty Tryz.func24 rfl rfl rfl fun w0 => ?_
  repeat' (first
    | refine WL_p hty rfl rfl ?_
    | refine WL_nil ?_
    | refine AC_seq ?_
    | refine AC_region ?_
    | refine AC_block ?_
    | refine AC_skip ?_
    | refine AC_condT rfl ?_
    | refine AC_condF rfl ?_
    | refine AC_exit ?_
    | refine AC_ret ?_
    | refine WL_ung rfl rfl ?_
    | refine WL_offT rfl rfl rfl ?_
    | refine WL_offF rfl rfl rfl ?_
    | refine WL_offU rfl rfl rfl ?_
    | refine WL_m rfl (m_idxN hty rfl rfl rfl (by assumption) rfl) ?_
    | refine ends_bool rfl ?_
    | refine WL_cmp rfl rfl rfl rfl (fun _ => ?_) (fun _ => ?_)
    | refine AC_cond rfl (fun _ => ?_) (fun _ => ?_))
  refine ends_wk rfl rfl (.agg ?_)
  repeat' (first | exact Wks.nil | refine Wks.cons (Wk.refl _) ?_ | refine Wks.cons (Wk.full _ _ _) ?_ | refine Wks.cons (Wk.nilF _ _ _) ?_)
theorem tnode_spec (k : Int) (l : List Tm) : FC Tryz.prog 39 [.int .i64 k, sT l] (aT (.mk k 0 l)) := by
  refine FC_intro hty Tryz.func39 rfl rfl rfl fun w0 => ?_
  repeat' (first
    | refine WL_p hty rfl rfl ?_
    | refine WL_nil ?_
    | refine AC_seq ?_
    | refine AC_region ?_
    | refine AC_block ?_
    | refine AC_skip ?_
    | refine AC_condT rfl ?_
    | refine AC_condF rfl ?_
    | refine AC_exit ?_
    | refine AC_ret ?_
    | refine WL_ung rfl rfl ?_
    | refine WL_offT rfl rfl rfl ?_
    | refine WL_offF rfl rfl rfl ?_
    | refine WL_offU rfl rfl rfl ?_
    | refine WL_m rfl (m_idxN hty rfl rfl rfl (by assumption) rfl) ?_
    | refine ends_bool rfl ?_
    | refine WL_cmp rfl rfl rfl rfl (fun _ => ?_) (fun _ => ?_)
    | refine AC_cond rfl (fun _ => ?_) (fun _ => ?_))
  refine ends_wk rfl rfl (.agg ?_)
  repeat' (first | exact Wks.nil | refine Wks.cons (Wk.refl _) ?_ | refine Wks.cons (Wk.full _ _ _) ?_ | refine Wks.cons (Wk.nilF _ _ _) ?_)

theorem depth_le_depths {l : List Tm} {t : Tm} (h : t ∈ l) : t.depth ≤ depths l := by
  induction l with
  | nil => cases h
  | cons a l ih =>
    simp only [depths]
    rcases List.mem_cons.1 h with rfl | h
    · omega
    · have := ih h; omega
/-! terms are told anew, each variable replaced -/
mutual
def mapT (F : Int → Int → Tm) : Int → Tm → Tm
  | b, .mk k n l => if k = 1 then F n b else .mk k n (mapTs F k b 0 l)
def mapTs (F : Int → Int → Tm) : Int → Int → Int → List Tm → List Tm
  | _, _, _, [] => []
  | k, b, i, t :: l => mapT F (b + bindsR k i) t :: mapTs F k b (i + 1) l
end
theorem mapT_eq (F : Int → Int → Tm) (b : Int) (t : Tm) : mapT F b t = if t.kind = 1 then F t.num b else .mk t.kind t.num (mapTs F t.kind b 0 t.kids) := by cases t; rw [mapT]; rfl
theorem mapTs_append (F : Int → Int → Tm) (k b : Int) (r : List Tm) : ∀ (l : List Tm) (i : Int), mapTs F k b i (l ++ r) = mapTs F k b i l ++ mapTs F k b (i + l.length) r
  | [], i => by simp [mapTs]
  | t :: l, i => by
    simp only [List.cons_append, mapTs, mapTs_append F k b r l, List.length_cons]
    rw [show i + 1 + (l.length : Int) = i + ((l.length + 1 : Nat) : Int) by omega]
theorem mapTs_length (F : Int → Int → Tm) (k b : Int) : ∀ (l : List Tm) (i : Int), (mapTs F k b i l).length = l.length
  | [], _ => rfl
  | t :: l, i => by simp only [mapTs, List.length_cons, mapTs_length]
theorem mapTs_snoc (F : Int → Int → Tm) (k b : Int) {l : List Tm} {j : Nat} {t : Tm} (h : l[j]? = some t) : mapTs F k b 0 (l.take (j + 1)) = mapTs F k b 0 (l.take j) ++ [mapT F (b + bindsR k j) t] := by
  have hlt : j < l.length := (List.getElem?_eq_some_iff.1 h).1
  have h1 : (l.take j).length = j := by rw [List.length_take]; omega
  rw [List.take_add_one, h, Option.toList_some, mapTs_append, h1, Int.zero_add]
  rfl
theorem formedT_kids {t k : Tm} (h : formedT t = true) (hk : k ∈ t.kids) : formedT k = true := by
  rw [formedT_eq] at h
  simp only [Bool.and_eq_true] at h
  exact List.all_eq_true.1 h.2 k hk
theorem formedT_var {t : Tm} (h : formedT t = true) (hk : t.kind = 1) : 0 ≤ t.num ∧ t.num ≤ 65535 := by
  rw [formedT_eq, hk] at h
  simp only [Bool.and_eq_true, Bool.or_eq_true, decide_eq_true_eq, inR] at h
  obtain ⟨⟨h1, h2, _⟩, _⟩ := h
  rcases h2 with h2 | h2
  · simp only [kidsR] at h1; simp at h1; omega
  · exact h2

set_option maxHeartbeats 4000000 in
theorem map_all (g : Nat) (xa : List AV) (hxa : xa.all closed0 = true) (F : Int → Int → Tm) (M : Int) (hM : M ≤ 4194304) (hF : ∀ n b, 0 ≤ n → n ≤ 65535 → 0 ≤ b → b ≤ M → FC Tryz.prog g ([.int .i64 n, .int .i64 b] ++ xa) (aT (F n b))) :
    ∀ n, n ≤ 1048576 → ∀ (t : Tm) (b : Int), t.size ≤ n → formedT t = true → 0 ≤ b → b + t.depth ≤ M + 1 → FC Tryz.prog 20 [aT t, .int .i64 b, .fn (.func g) [] xa] (aT (mapT F b t)) := by
  intro n
  induction n with
  | zero => intro hn t b ht; have := t.size_pos; omega
  | succ n ih =>
  intro hn t b ht hfm hb0 hbM
  have ih := ih (by omega)
  have hs := t.size_eq
  have hdp := t.depth_eq
  have hlen := len_le_sizes t.kids
  have hme := mapT_eq F b t
  refine FC_intro hty Tryz.func20 rfl rfl rfl fun w0 => ?_
  have hcl : closedS (.fn (.func g) [] xa) = true := by simp only [closedS, hxa]; rfl
  have hca : ∀ blk : Bk, argV blk (.fn (.func g) [] xa) = some (.fn (.func g) [] xa) := by intro blk; simp only [argV, argS, hcl]
  repeat' (first
    | refine WL_m rfl (m_callF 0 rfl (by simp [hxa]) rfl (hF t.num b (formedT_var hfm ‹_›).1 (formedT_var hfm ‹_›).2 hb0 (by omega)) rfl rfl rfl) ?_
    | refine WL_m rfl (m_makeSlice hty 10 rfl rfl rfl rfl rfl (by rw [rsT_length]; omega) rfl rfl rfl) ?_
    | refine WL_p hty rfl rfl ?_
    | refine WL_nil ?_
    | refine AC_seq ?_
    | refine AC_region ?_
    | refine AC_block ?_
    | refine AC_skip ?_
    | refine AC_condT rfl ?_
    | refine AC_condF rfl ?_
    | refine AC_exit ?_
    | refine AC_ret ?_
    | refine WL_ung rfl rfl ?_
    | refine WL_offT rfl rfl rfl ?_
    | refine WL_offF rfl rfl rfl ?_
    | refine WL_offU rfl rfl rfl ?_
    | refine WL_m rfl (m_idxN hty rfl rfl rfl (by assumption) rfl) ?_
    | refine ends_bool rfl ?_
    | refine WL_cmp rfl rfl rfl rfl (fun _ => ?_) (fun _ => ?_)
    | refine AC_cond rfl (fun _ => ?_) (fun _ => ?_))
  · rw [hme, if_pos ‹_›]
    exact ends_wk rfl rfl (.refl _)
  · rename_i h1 h2
    rw [rsT_length] at h2
    have h3 : t.kids = [] := List.length_eq_zero_iff.1 (by omega)
    rw [hme, if_neg ‹_›, h3]
    refine ends_wk rfl rfl (.agg ?_)
    repeat' (first | exact Wks.nil | refine Wks.cons (Wk.refl _) ?_ | refine Wks.cons (Wk.full _ _ _) ?_ | refine Wks.cons (Wk.nilF _ _ _) ?_)
  rename_i h1 h2
  rw [rsT_length] at h2
  rw [if_neg h1] at hme
  refine AC_for t.kids.length (fun _ => True) (fun j => ⟨envOf [(1, .int .i64 b), (2, .fn (.func g) [] xa), (3, .ptr 3 0), (6, .ptr 6 0), (7, .arr 10), (29, sT t.kids), (30, .int .i64 ((rsT t.kids).length : Nat)), (31, .int .i64 (j : Nat))],
      bkOf [(3, .box (cT t)), (6, .box [.int .i64 0, .int .i64 0, .lst 3 [] true]), (10, .arr 24 3 (rsT (mapTs F t.kind b 0 (t.kids.take j)) ++ List.replicate ((rsT t.kids).length - j) [.int .i64 0, .int .i64 0, .lst 3 [] true]) true)]⟩)
    (less_sub ⟨⟨_, rfl, .inl ⟨.refl _, rfl⟩⟩, ⟨_, rfl, .inl ⟨.refl _, hcl⟩⟩, ⟨_, rfl, .inl ⟨.refl _, rfl⟩⟩, ⟨_, rfl, .inl ⟨.refl _, rfl⟩⟩, ⟨_, rfl, .inl ⟨.refl _, rfl⟩⟩, ⟨_, rfl, .inl ⟨.refl _, rfl⟩⟩, ⟨_, rfl, .inl ⟨.refl _, rfl⟩⟩, ⟨_, rfl, .inl ⟨.refl _, rfl⟩⟩, trivial⟩ ⟨⟨⟨_, rfl, .refl _⟩, rfl⟩, ⟨⟨_, rfl, .refl _⟩, rfl⟩, ⟨⟨_, rfl, .refl _⟩, rfl⟩, trivial⟩) trivial ?_
  intro j hj _
  repeat' (first
    | refine WL_p hty rfl rfl ?_
    | refine WL_nil ?_
    | refine AC_seq ?_
    | refine AC_region ?_
    | refine AC_block ?_
    | refine AC_skip ?_
    | refine AC_condT rfl ?_
    | refine AC_condF rfl ?_
    | refine AC_exit ?_
    | refine AC_ret ?_
    | refine WL_ung rfl rfl ?_
    | refine WL_offT rfl rfl rfl ?_
    | refine WL_offF rfl rfl rfl ?_
    | refine WL_offU rfl rfl rfl ?_
    | refine WL_m rfl (m_idxN hty rfl rfl rfl (by assumption) rfl) ?_
    | refine ends_bool rfl ?_)
  refine WL_cmp rfl rfl rfl rfl (fun hc => ?_) (fun hc => ?_)
  · have hlt : j < t.kids.length := by rw [rsT_length] at hc; omega
    obtain ⟨k, hk, hmem⟩ := get_of_lt hlt
    have hks := size_le_sizes hmem
    have hkd := depth_le_depths hmem
    have rk := rsT_get hk
    have hbi : 0 ≤ bindsR t.kind (j : Nat) ∧ bindsR t.kind (j : Nat) ≤ 1 := by unfold bindsR; split <;> omega
    have hwr : IntKind.i64.wrap (b + bindsR t.kind (j : Nat)) = b + bindsR t.kind (j : Nat) := wrap_ok (n := b + bindsR t.kind (j : Nat)) (by omega) (by omega)
    have hkc := ih k (b + bindsR t.kind (j : Nat)) (by omega) (formedT_kids hfm hmem) (by omega) (by omega)
    rw [← hwr] at hkc
    have htl : (rsT (mapTs F t.kind b 0 (t.kids.take j))).length = j := by rw [rsT_length, mapTs_length, List.length_take]; omega
    have hg := get_fill (z := ([.int .i64 0, .int .i64 0, .lst 3 [] true] : List AV)) (n := (rsT t.kids).length) htl (by rw [rsT_length]; exact hlt)
    have he : ∀ (s : AS) (v c : AV), evO s (.tmp 38) = some v → argV s.blk v = some v → evO s (.tmp 44) = some c → argV s.blk c = some c → evO s (.tmp 45) = some (.fn (.func g) [] xa) → evArgs s [.tmp 38, .tmp 44, .tmp 45] = some [v, c, .fn (.func g) [] xa] := by
      intro s v c e1 e2 e3 e4 e5
      simp only [evArgs, e1, e2, e3, e4, e5, hca]
    repeat' (first
      | refine AC_drawn [[], [], [], [], [], [4], [], [4, 5, 6], [3, 4, 5, 6, 7], [], [2, 3, 4, 5, 6, 7, 8, 9], [0, 1, 2, 3, 4, 5, 6, 7, 8, 9, 10], [0, 1, 2, 3, 4, 5, 6, 7, 8, 9, 10, 11]] rfl rfl ?_
      | refine WD_cons (.inl ⟨rfl, m_call 0 rfl (kbinds_spec _ _) rfl rfl rfl⟩) ?_
      | refine WD_cons (.inl ⟨rfl, m_call 0 (he _ _ _ rfl rfl rfl rfl rfl) hkc rfl rfl rfl⟩) ?_
      | refine WD_cons (.inl ⟨rfl, m_idxA hty rfl rfl rfl rfl rfl (Int.natCast_nonneg _) (by simp [rsT_length, mapTs_length]; omega) rfl⟩) ?_
      | refine WD_cons (.inl ⟨rfl, m_storeA hty rfl rfl rfl rfl hg rfl rfl rfl rfl rfl⟩) ?_
      | refine WD_cons (.inl ⟨rfl, stepE_ok hty rfl rfl⟩) ?_
      | refine WD_cons (.inl ⟨rfl, m_idxN hty rfl rfl rfl (by assumption) rfl⟩) ?_
      | refine WD_ung rfl rfl ?_
      | refine WD_offT rfl rfl rfl ?_
      | refine WD_offF rfl rfl rfl ?_
      | refine WD_offU rfl rfl rfl ?_
      | refine WD_nil ⟨by kernel_rfl, ?_⟩
      | refine WL_p hty rfl rfl ?_
      | refine WL_nil ?_
      | refine AC_seq ?_
      | refine AC_region ?_
      | refine AC_block ?_
      | refine AC_skip ?_
      | refine AC_condT rfl ?_
      | refine AC_condF rfl ?_
      | refine AC_exit ?_
      | refine AC_ret ?_
      | refine WL_ung rfl rfl ?_
      | refine WL_offT rfl rfl rfl ?_
      | refine WL_offF rfl rfl rfl ?_
      | refine WL_offU rfl rfl rfl ?_
      | refine WL_m rfl (m_idxN hty rfl rfl rfl (by assumption) rfl) ?_
      | refine ends_bool rfl ?_
      | refine WL_cmp rfl rfl rfl rfl (fun _ => ?_) (fun _ => ?_)
      | refine AC_cond rfl (fun _ => ?_) (fun _ => ?_))
    refine ⟨hlt, trivial, (less_sub ⟨⟨_, rfl, .inl ⟨.refl _, rfl⟩⟩, ⟨_, rfl, .inl ⟨.refl _, hcl⟩⟩, ⟨_, rfl, .inl ⟨.refl _, rfl⟩⟩, ⟨_, rfl, .inl ⟨.refl _, rfl⟩⟩, ⟨_, rfl, .inl ⟨.refl _, rfl⟩⟩, ⟨_, rfl, .inl ⟨.refl _, rfl⟩⟩, ⟨_, rfl, .inl ⟨.refl _, rfl⟩⟩, ⟨_, rfl, see_eq ?_ rfl⟩, trivial⟩ ⟨⟨⟨_, rfl, .refl _⟩, rfl⟩, ⟨⟨_, rfl, .refl _⟩, rfl⟩, ?_, trivial⟩)⟩
    · exact congrArg (AV.int .i64) ((wrap_ok (by omega) (by omega)).trans (by omega))
    · refine ⟨⟨_, rfl, .of_eq (congrArg (fun r => AB.arr 24 3 r true) ?_)⟩, rfl⟩
      rw [hwr]
      refine (set_fill htl (by rw [rsT_length]; exact hlt)).trans ?_
      rw [mapTs_snoc F t.kind b hk, rsT_append, rs1]
      rfl
  · obtain rfl : j = t.kids.length := by rw [rsT_length] at hc; omega
    repeat' (first
      | refine WL_p hty rfl rfl ?_
      | refine WL_nil ?_
      | refine AC_seq ?_
      | refine AC_region ?_
      | refine AC_block ?_
      | refine AC_skip ?_
      | refine AC_condT rfl ?_
      | refine AC_condF rfl ?_
      | refine AC_exit ?_
      | refine AC_ret ?_
      | refine WL_ung rfl rfl ?_
      | refine WL_offT rfl rfl rfl ?_
      | refine WL_offF rfl rfl rfl ?_
      | refine WL_offU rfl rfl rfl ?_
      | refine WL_m rfl (m_idxN hty rfl rfl rfl (by assumption) rfl) ?_
      | refine ends_bool rfl ?_
      | refine WL_cmp rfl rfl rfl rfl (fun _ => ?_) (fun _ => ?_)
      | refine AC_cond rfl (fun _ => ?_) (fun _ => ?_))
    refine ends_less (less_freeze 10 rfl) ?_
    refine ends_wk rfl rfl (.of_eq ?_)
    rw [hme, List.take_length, rsT_length, Nat.sub_self]
    exact congrArg (fun r => AV.agg [.int .i64 t.kind, .int .i64 t.num, .lst 3 r false]) (List.append_nil _)

theorem map_spec (g : Nat) (xa : List AV) (hxa : xa.all closed0 = true) (F : Int → Int → Tm) (M : Int) (hM : M ≤ 4194304) (hF : ∀ n b, 0 ≤ n → n ≤ 65535 → 0 ≤ b → b ≤ M → FC Tryz.prog g ([.int .i64 n, .int .i64 b] ++ xa) (aT (F n b)))
    (t : Tm) (b : Int) (hs : t.size ≤ 1048576) (hfm : formedT t = true) (hb : 0 ≤ b) (hd : b + t.depth ≤ M + 1) : FC Tryz.prog 20 [aT t, .int .i64 b, .fn (.func g) [] xa] (aT (mapT F b t)) :=
  map_all g xa hxa F M hM hF 1048576 (by omega) t b hs hfm hb hd
end Go.Proofs.YtpnjflimilamdaaGreat
