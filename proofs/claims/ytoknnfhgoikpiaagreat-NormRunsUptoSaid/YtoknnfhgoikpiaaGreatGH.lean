/-
  Positivity: clean terms.; Positivity: clean terms.; Positivity: clean terms.; Positivity: good terms, indices.; Positivity: indices, rows of arguments.; Positivity of a block.; Whether an entry of a row is right.; Whether a row of entries is right.; How heavy a row is.
-/
import Derived.Test.YtoknnfhgoikpiaaGreatGG
import Derived.Test.YtoknnfhgoikpiaaGreatGD
import Derived.Test.YtoknnfhgoikpiaaGreatGC

/-
  Positivity: clean terms.
-/
namespace Go.Proofs.YtoknnfhgoikpiaaGreat
set_option linter.unusedSimpArgs false
set_option linter.unusedVariables false
open Go.Aw Go.RowKit
def tbPosit235_4 : List (Nat × List Nat) := [(0, []), (1, []), (2, [1]), (3, []), (4, [1, 2, 3]), (5, [1, 2, 3, 4]), (6, [1, 2, 3, 4, 5]), (7, [0]), (8, [0, 1, 2, 3, 4, 5, 6, 7])]
attribute [local irreducible] WL AC WD WE MStep OkOp

/-- Where a term stands. -/
structure Pl where
  b : Bl
  base : Int
  args : List Ar
  more : Int
abbrev cP (p : Pl) : List AV := [.lst 6 (rsS p.b.sorts) false, .lst 6 (rsC p.b.cons) false, .int .i64 p.b.elim, .int .i64 p.base, .lst 7 (rsA p.args) false, .int .i64 p.more]
abbrev aP (p : Pl) : AV := .agg (cP p)
def Pl.inn (p : Pl) (n : Int) : Pl := { p with more := p.more + n }

/-- Which argument a variable is; whether it is recursive. -/
def guardI (args : List Ar) (more : Int) (t : Tm) : Int × Bool :=
  if t.kind = 1 ∧ more ≤ t.num ∧ t.num - more < args.length then ((args.length : Int) - 1 - (t.num - more), match args[((args.length : Int) - 1 - (t.num - more)).toNat]? with
    | some a => a.rc
    | none => false) else (0, false)

theorem pin_spec (p : Pl) (n : Int) (h : -4194304 ≤ p.more + n ∧ p.more + n ≤ 8388608) : FC Tryz.prog 234 [aP p, .int .i64 n] (aP (p.inn n)) := by
  refine FC_intro hty Tryz.func234 rfl rfl rfl fun w0 => ?_
  repeat' (first | refine WL_p hty rfl rfl ?_ | refine WL_nil ?_ | refine AC_seq ?_ | refine AC_region ?_ | refine AC_skip ?_ | refine AC_ret ?_ | refine ends_bool rfl ?_ | refine WL_cmp rfl rfl rfl rfl (fun _ => ?_) (fun _ => ?_))
  refine ends_wk rfl rfl (.of_eq ?_)
  rw [wrap_ok (n := p.more + n) (by omega) (by omega)]
  rfl

set_option maxHeartbeats 4000000 in
theorem guarded_spec (p : Pl) (t : Tm) (hl : p.args.length ≤ 1048576) (hn : 0 ≤ t.num ∧ t.num ≤ 65535) (hm : 0 ≤ p.more ∧ p.more ≤ 8388608) : FC Tryz.prog 235 [aP p, aT t] (.tup [.int .i64 (guardI p.args p.more t).1, .bool (guardI p.args p.more t).2]) := by
  have w1 : IntKind.i64.wrap (((rsA p.args).length : Int) - 1) = (p.args.length : Int) - 1 := by rw [rsA_length]; exact wrap_ok (by omega) (by omega)
  have w2 : IntKind.i64.wrap (t.num - p.more) = t.num - p.more := wrap_ok (by omega) (by omega)
  have w3 : IntKind.i64.wrap (IntKind.i64.wrap (((rsA p.args).length : Int) - 1) - IntKind.i64.wrap (t.num - p.more)) = (p.args.length : Int) - 1 - (t.num - p.more) := by rw [w1, w2]; exact wrap_ok (by omega) (by omega)
  by_cases hg : t.kind = 1 ∧ p.more ≤ t.num ∧ t.num - p.more < p.args.length
  · obtain ⟨a, ha, _⟩ := get_of_lt (show ((p.args.length : Int) - 1 - (t.num - p.more)).toNat < p.args.length by omega)
    have hgi : guardI p.args p.more t = ((p.args.length : Int) - 1 - (t.num - p.more), a.rc) := by unfold guardI; rw [if_pos hg, ha]
    have ra := rsA_get ha
    rw [← w3] at ra
    obtain ⟨g1, g2, g3⟩ := hg
    have n2 : ¬ t.num < p.more := by omega
    have n3 : ¬ IntKind.i64.wrap (IntKind.i64.wrap (((rsA p.args).length : Int) - 1) - IntKind.i64.wrap (t.num - p.more)) < 0 := by rw [w3]; omega
    have n0 : 0 ≤ IntKind.i64.wrap (IntKind.i64.wrap (((rsA p.args).length : Int) - 1) - IntKind.i64.wrap (t.num - p.more)) := by omega
    rw [hgi, ← w3]
    refine FC_intro hty Tryz.func235 rfl rfl rfl fun w0 => ?_
    repeat' (first | exact absurd g1 ‹_› | exact absurd (by assumption) n2 | exact absurd (by assumption) n3 | (refine AC_less (less_sub (l := [(2, _), (3, _), (6, _)]) (bl := [(2, _), (3, _)]) ⟨⟨_, rfl, .inl ⟨.refl _, rfl⟩⟩, ⟨_, rfl, .inl ⟨.refl _, rfl⟩⟩, ⟨_, rfl, .inl ⟨.refl _, rfl⟩⟩, trivial⟩ ⟨⟨⟨_, rfl, .refl _⟩, rfl⟩, ⟨⟨_, rfl, .refl _⟩, rfl⟩, trivial⟩) ?_; refine AC_drawnE (id := 4) tbPosit235_4 rfl (by kernel_rfl) ?_) | refine WE_cons (.inl ⟨rfl, m_idxL hty rfl rfl rfl n0 ra rfl⟩) ?_ | refine WE_cons (.inl ⟨rfl, stepE_ok hty rfl rfl⟩) ?_ | refine WE_cons (.inl ⟨rfl, m_idxN hty rfl rfl rfl (by assumption) rfl⟩) ?_ | refine WE_nil ⟨by kernel_rfl, ?_⟩ | refine WL_p hty rfl rfl ?_ | refine WL_nil ?_ | refine AC_seq ?_ | refine AC_region ?_ | refine AC_skip ?_ | refine AC_condT rfl ?_ | refine AC_condF rfl ?_ | refine AC_ret ?_ | refine WL_ung rfl rfl ?_ | refine WL_offT rfl rfl rfl ?_ | refine WL_offF rfl rfl rfl ?_ | refine WL_offU rfl rfl rfl ?_ | refine ends_bool rfl ?_ | refine WL_cmp rfl rfl rfl rfl (fun _ => ?_) (fun _ => ?_) | refine AC_cond rfl (fun _ => ?_) (fun _ => ?_))
    exact ends_wk rfl rfl (.refl _)
  · have hgi : guardI p.args p.more t = (0, false) := by unfold guardI; rw [if_neg hg]
    rw [hgi]
    refine FC_intro hty Tryz.func235 rfl rfl rfl fun w0 => ?_
    repeat' (first | (refine absurd ?_ hg; refine ⟨Decidable.not_not.1 (by assumption), by omega, ?_⟩; rw [w3] at *; omega) | refine WL_p hty rfl rfl ?_ | refine WL_nil ?_ | refine AC_seq ?_ | refine AC_region ?_ | refine AC_skip ?_ | refine AC_condT rfl ?_ | refine AC_condF rfl ?_ | refine AC_ret ?_ | refine WL_ung rfl rfl ?_ | refine WL_offT rfl rfl rfl ?_ | refine WL_offF rfl rfl rfl ?_ | refine WL_offU rfl rfl rfl ?_ | refine ends_bool rfl ?_ | refine WL_cmp rfl rfl rfl rfl (fun _ => ?_) (fun _ => ?_) | refine AC_cond rfl (fun _ => ?_) (fun _ => ?_))
    all_goals exact ends_wk rfl rfl (.refl _)

end Go.Proofs.YtoknnfhgoikpiaaGreat

/-
  Positivity: clean terms.
-/
namespace Go.Proofs.YtoknnfhgoikpiaaGreat
set_option linter.unusedSimpArgs false
set_option linter.unusedVariables false
open Go.Aw Go.RowKit
def tbPosit2237_10 : List (Nat × List Nat) := [(0, []), (1, [0]), (2, [0, 1]), (3, [0, 1]), (4, [0, 1]), (5, [0, 1, 3, 4]), (6, [0, 1, 2, 3, 4, 5]), (7, [0, 1, 2, 3, 4, 5, 6]), (8, [0, 1, 2, 3, 4, 5, 6, 7]), (9, [0, 1, 2, 3, 4, 5, 6, 7, 8]), (10, [0, 1, 2, 3, 4, 5, 6, 7, 8]), (11, [0, 1, 2, 3, 4, 5, 6, 7, 8, 9, 10]), (12, [0, 1, 2, 3, 4, 5, 6, 7, 8, 9, 10, 11]), (13, [0, 1, 2, 3, 4, 5, 6, 7, 8, 9, 10, 11, 12])]
attribute [local irreducible] WL AC WD WE MStep OkOp

/-! spines -/
theorem spN_inv (P : Tm → Prop) (hP : ∀ t k, P t → k ∈ t.kids → P k) : ∀ (n : Nat) (t : Tm) (acc : List Tm), P t → (∀ a, a ∈ acc → P a) → P (spN n t acc).1 ∧ ∀ a, a ∈ (spN n t acc).2 → P a
  | 0, t, acc, h, ha => ⟨h, ha⟩
  | n + 1, t, acc, h, ha => by
    by_cases h2 : twoB t 6 = true
    · obtain ⟨f, a, hk⟩ := two_kids h2
      rw [spN_step h2 hk]
      refine spN_inv P hP n f _ (hP t f h (by rw [hk]; exact List.mem_cons_self)) (fun x hx => ?_)
      rcases List.mem_append.1 hx with q | q
      · exact ha x q
      · rw [List.mem_singleton.1 q]; exact hP t a h (by rw [hk]; simp)
    · have h2 : twoB t 6 = false := by simpa using h2
      rw [spN_end h2]; exact ⟨h, ha⟩
theorem spN_sizes : ∀ (n : Nat) (t : Tm) (acc : List Tm), sizes (spN n t acc).2 + (spN n t acc).1.size ≤ sizes acc + t.size
  | 0, t, acc => Nat.le_refl _
  | n + 1, t, acc => by
    by_cases h2 : twoB t 6 = true
    · obtain ⟨f, a, hk⟩ := two_kids h2
      have hs := t.size_eq
      rw [hk] at hs
      simp only [sizes] at hs
      have := spN_sizes n f (acc ++ [a])
      rw [spN_step h2 hk, sizes_append] at *
      simp only [sizes] at this
      omega
    · have h2 : twoB t 6 = false := by simpa using h2
      rw [spN_end h2]; exact Nat.le_refl _
theorem sizes_reverse (l : List Tm) : sizes l.reverse = sizes l := by
  induction l with
  | nil => rfl
  | cons a l ih => rw [List.reverse_cons, sizes_append, ih]; simp only [sizes]; omega
theorem split_sizes (t : Tm) : sizes (splitT t).2 + (splitT t).1.size ≤ t.size := by
  have := spN_sizes t.size t []
  unfold splitT
  rw [sizes_reverse]
  simpa [sizes] using this
theorem split_inv (P : Tm → Prop) (hP : ∀ t k, P t → k ∈ t.kids → P k) {t : Tm} (h : P t) : P (splitT t).1 ∧ ∀ a, a ∈ (splitT t).2 → P a := by
  have := spN_inv P hP t.size t [] h (fun a ha => by cases ha)
  exact ⟨this.1, fun a ha => this.2 a (by unfold splitT at ha; exact List.mem_reverse.1 ha)⟩

/-- Right, and no deeper than .. -/
def Sub (D : Nat) (t : Tm) : Prop := formedT t = true ∧ t.depth ≤ D
theorem Sub.kid {D : Nat} (t k : Tm) (h : Sub D t) (hk : k ∈ t.kids) : Sub D k := ⟨formedT_kids h.1 hk, by
  have := depth_le_depths hk
  have := t.depth_eq
  have := h.2
  omega⟩
theorem formedT_numle {t : Tm} (h : formedT t = true) : 0 ≤ t.num ∧ t.num ≤ 65535 := by
  rw [formedT_eq] at h
  simp only [Bool.and_eq_true, Bool.or_eq_true, decide_eq_true_eq, inR] at h
  obtain ⟨⟨_, h2, h3⟩, _⟩ := h
  rcases h2 with h2 | h2
  · rcases h3 with h3 | h3
    · exact absurd h3 h2
    · omega
  · exact h2

theorem ofL_ge : ∀ (l : List (Int × Nat × (Int → Int))) (n : Int), 0 ≤ (ofL l n).2
  | [], _ => Int.le_refl _
  | (k, m, f) :: l, n => by
    simp only [ofL]
    split
    · assumption
    · exact ofL_ge l n
theorem idxF_lt {α : Type} {p : α → Bool} : ∀ {l : List α}, 0 ≤ idxF p l → idxF p l < l.length
  | [], h => by simp [idxF] at h
  | a :: l, h => by
    simp only [idxF] at h ⊢
    by_cases hp : p a = true
    · rw [if_pos hp, List.length_cons]; omega
    · rw [if_neg hp] at h ⊢
      by_cases h2 : idxF p l < 0
      · rw [if_pos h2] at h; omega
      · rw [if_neg h2, List.length_cons]
        have := idxF_lt (p := p) (l := l) (by omega)
        omega
theorem ofL_in : ∀ (l : List (Int × Nat × (Int → Int))) (n : Int), (ofL l n).1 ≠ 0 → ∃ r ∈ l, r.1 = (ofL l n).1 ∧ (ofL l n).2 < r.2.1
  | [], _, h => absurd rfl h
  | (k, m, f) :: l, n, h => by
    simp only [ofL] at h ⊢
    by_cases hi : 0 ≤ idxF (fun i : Nat => decide (f i = n)) (List.range m)
    · rw [if_pos hi] at h ⊢
      have hlt := idxF_lt hi
      rw [List.length_range] at hlt
      exact ⟨(k, m, f), List.mem_cons_self, rfl, hlt⟩
    · rw [if_neg hi] at h ⊢
      obtain ⟨r, h1, h2⟩ := ofL_in l n h
      exact ⟨r, List.mem_cons_of_mem _ h1, h2⟩
theorem ofB_kind {b : Bl} {base n : Int} : 0 ≤ (ofB b base n).2 ∧ ((ofB b base n).1 = 4 → (ofB b base n).2.toNat < b.sorts.length) ∧ ((ofB b base n).1 = 5 → (ofB b base n).2.toNat < b.cons.length) := by
  have hz : 0 ≤ ((0 : Int), (0 : Int)).2 ∧ (((0 : Int), (0 : Int)).1 = 4 → ((0 : Int), (0 : Int)).2.toNat < b.sorts.length) ∧ (((0 : Int), (0 : Int)).1 = 5 → ((0 : Int), (0 : Int)).2.toNat < b.cons.length) := ⟨Int.le_refl _, fun h => absurd h (by decide), fun h => absurd h (by decide)⟩
  unfold ofB
  split
  · exact hz
  · split
    · exact hz
    · split
      · exact hz
      · split
        · exact hz
        · refine ⟨ofL_ge _ _, fun h => ?_, fun h => ?_⟩
          all_goals
            obtain ⟨r, hr, h1, h2⟩ := ofL_in (ofRows b base) n (by rw [h]; decide)
            rw [h] at h1
            have hge := ofL_ge (ofRows b base) n
            simp only [ofRows, List.mem_cons, List.not_mem_nil, or_false] at hr
            rcases hr with rfl | rfl | rfl | rfl
            all_goals first
              | (exfalso; revert h1; decide)
              | (simp only at h2; omega)

/-! clean terms -/
def kidsAll (g : Int → Tm → Bool) (m k : Int) : Int → List Tm → Bool
  | _, [] => true
  | i, t :: l => g (m + bindsR k i) t && kidsAll g m k (i + 1) l
def decodesG (g : Tm → Bool) (p : Pl) (t : Tm) : Bool :=
  decide ((splitT t).1.kind = 3) && (decide ((ofB p.b p.base (splitT t).1.num).1 = 4) && (decide ((splitT t).2.length = idxN p.b (ofB p.b p.base (splitT t).1.num).2 + 1) &&
    ((guardI p.args p.more (splitT ((splitT t).2.getD ((splitT t).2.length - 1) zT)).1).2 && (((splitT t).2.take ((splitT t).2.length - 1)).all g && (splitT ((splitT t).2.getD ((splitT t).2.length - 1) zT)).2.all g))))
def cleanF (b : Bl) (base : Int) (args : List Ar) : Nat → Int → Tm → Bool
  | 0, _, _ => true
  | f + 1, m, t => if t.kind = 1 then !(guardI args m t).2 else if t.kind = 3 then decide ((ofB b base t.num).1 = 0) else
    if t.kind = 6 ∧ decodesG (cleanF b base args f m) ⟨b, base, args, m⟩ t = true then true else kidsAll (cleanF b base args f) m t.kind 0 t.kids

theorem kidsAll_append (g : Int → Tm → Bool) (m k : Int) (r : List Tm) : ∀ (l : List Tm) (i : Int), kidsAll g m k i (l ++ r) = (kidsAll g m k i l && kidsAll g m k (i + l.length) r)
  | [], i => by simp [kidsAll]
  | t :: l, i => by
    simp only [List.cons_append, kidsAll, kidsAll_append g m k r l, List.length_cons, Bool.and_assoc]
    rw [show i + 1 + (l.length : Int) = i + ((l.length + 1 : Nat) : Int) by omega]
theorem kidsAll_split (g : Int → Tm → Bool) (m k : Int) {l : List Tm} {j : Nat} {x : Tm} (h : l[j]? = some x) : kidsAll g m k 0 l = (kidsAll g m k 0 (l.take j) && (g (m + bindsR k (j : Nat)) x && kidsAll g m k ((j : Nat) + 1) (l.drop (j + 1)))) := by
  have hlt : j < l.length := (List.getElem?_eq_some_iff.1 h).1
  conv => lhs; rw [← List.take_append_drop j l, kidsAll_append, List.drop_eq_getElem_cons hlt, kidsAll]
  have h1 : (l.take j).length = j := by rw [List.length_take]; omega
  have h2 : l[j] = x := by rw [List.getElem?_eq_getElem hlt] at h; exact Option.some.inj h
  rw [h1, h2, Int.zero_add]
theorem kidsAll_next (g : Int → Tm → Bool) (m k : Int) {l : List Tm} {j : Nat} {x : Tm} (h : l[j]? = some x) : kidsAll g m k 0 (l.take (j + 1)) = (kidsAll g m k 0 (l.take j) && g (m + bindsR k (j : Nat)) x) := by
  have hlt : j < l.length := (List.getElem?_eq_some_iff.1 h).1
  have h1 : (l.take j).length = j := by rw [List.length_take]; omega
  rw [List.take_add_one, h, Option.toList_some, kidsAll_append, h1, Int.zero_add]
  simp [kidsAll]


/-! the walks -/
theorem size_le_of_mem {l : List Tm} {t : Tm} (h : t ∈ l) : t.size ≤ sizes l := size_le_sizes h

theorem pall1_spec (p : Pl) (t : Tm) (c : Bool) (h : FC Tryz.prog 194 [aP p, aT t] (.bool c)) : FC Tryz.prog 255 [aT t, .eptr (cP p) 0] (.bool (!c)) := by
  refine FC_intro hty Tryz.func255 rfl rfl rfl fun w0 => ?_
  repeat' (first | refine WL_callB rfl h rfl (fun _ => ?_) (fun _ => ?_) | refine WL_p hty rfl rfl ?_ | refine WL_nil ?_ | refine AC_seq ?_ | refine AC_region ?_ | refine AC_skip ?_ | refine AC_ret ?_ | refine ends_bool rfl ?_)
  all_goals simp [*]
theorem pall_spec (p : Pl) (l : List Tm) (g : Tm → Bool) (hl : sizes l ≤ 1048576) (h : ∀ t, t ∈ l → FC Tryz.prog 194 [aP p, aT t] (.bool (g t))) : FC Tryz.prog 250 [aP p, sT l] (.bool (l.all g)) := by
  have hcf := containsFunc_spec 255 [.eptr (cP p) 0] rfl (fun t => !g t) l (by omega) (fun t ht => pall1_spec p t (g t) (h t ht))
  refine FC_intro hty Tryz.func250 rfl rfl rfl fun w0 => ?_
  repeat' (first | refine WL_less (less_freezeBox 2 rfl rfl) ?_ | refine WL_m rfl (m_makeFunc rfl rfl rfl) ?_ | refine WL_callB rfl hcf rfl (fun _ => ?_) (fun _ => ?_) | refine WL_p hty rfl rfl ?_ | refine WL_nil ?_ | refine AC_seq ?_ | refine AC_region ?_ | refine AC_skip ?_ | refine AC_ret ?_ | refine ends_bool rfl ?_)
  all_goals (rename_i hq; rw [all_not_any, hq])

set_option maxRecDepth 4000 in
set_option maxHeartbeats 4000000 in
theorem decodes_spec (p : Pl) (t : Tm) (g : Tm → Bool) (hb : p.b.size ≤ 1048576) (hl : p.args.length ≤ 1048576) (hm : 0 ≤ p.more ∧ p.more ≤ 8388608) (hs : t.size ≤ 1048576) (hfm : formedT t = true)
    (h : ∀ a : Tm, a.size < t.size → formedT a = true → a.depth ≤ t.depth → FC Tryz.prog 194 [aP p, aT a] (.bool (g a))) : FC Tryz.prog 237 [aP p, aT t] (.bool (decodesG g p t)) := by
  have hsp := split_spec t hs
  have hsz := split_sizes t
  obtain ⟨hi1, hi2⟩ := split_inv (Sub t.depth) Sub.kid (t := t) ⟨hfm, Nat.le_refl _⟩
  have hhp := (splitT t).1.size_pos
  obtain ⟨f, hf⟩ : ∃ f, f = (splitT t).1 := ⟨_, rfl⟩
  obtain ⟨l, hll⟩ : ∃ l, l = (splitT t).2 := ⟨_, rfl⟩
  have hd : decodesG g p t = (decide (f.kind = 3) && (decide ((ofB p.b p.base f.num).1 = 4) && (decide (l.length = idxN p.b (ofB p.b p.base f.num).2 + 1) &&
    ((guardI p.args p.more (splitT (l.getD (l.length - 1) zT)).1).2 && ((l.take (l.length - 1)).all g && (splitT (l.getD (l.length - 1) zT)).2.all g))))) := by rw [hf, hll]; rfl
  rw [hd]
  rw [← hf, ← hll] at hsp
  rw [← hf, ← hll] at hsz
  rw [← hf] at hi1 hhp
  rw [← hll] at hi2
  clear hd hf hll
  have hnum := formedT_numle hi1.1
  have hll := len_le_sizes l
  by_cases k3 : f.kind = 3
  case neg =>
    refine FC_intro hty Tryz.func237 rfl rfl rfl fun w0 => ?_
    repeat' (first | exact absurd (show f.kind ≠ 3 from k3) ‹_› | refine WL_call 0 rfl hsp rfl rfl rfl ?_ | refine WL_p hty rfl rfl ?_ | refine WL_nil ?_ | refine AC_seq ?_ | refine AC_region ?_ | refine AC_skip ?_ | refine AC_condT rfl ?_ | refine AC_condF rfl ?_ | refine AC_ret ?_ | refine WL_ung rfl rfl ?_ | refine WL_offT rfl rfl rfl ?_ | refine WL_offF rfl rfl rfl ?_ | refine WL_offU rfl rfl rfl ?_ | refine WL_m rfl (m_idxN hty rfl rfl rfl (by assumption) rfl) ?_ | refine ends_bool rfl ?_ | refine WL_cmp rfl rfl rfl rfl (fun _ => ?_) (fun _ => ?_) | refine AC_cond rfl (fun _ => ?_) (fun _ => ?_))
    rw [decide_eq_false k3]; rfl
  have hof := of4_spec p.b p.base f.num hb (by omega)
  obtain ⟨q1, q2, _⟩ := ofB_kind (b := p.b) (base := p.base) (n := f.num)
  obtain ⟨⟨kd, wh⟩, hK⟩ : ∃ K, K = ofB p.b p.base f.num := ⟨_, rfl⟩
  rw [← hK] at hof q1 q2 ⊢
  simp only at hof q1 q2 ⊢
  rw [decide_eq_true k3, Bool.true_and]
  by_cases k4 : kd = 4
  case neg =>
    refine FC_intro hty Tryz.func237 rfl rfl rfl fun w0 => ?_
    repeat' (first | exact absurd k3 ‹_› | exact absurd (show kd ≠ 4 from k4) ‹_› | refine WL_call 0 rfl hsp rfl rfl rfl ?_ | refine WL_call 0 rfl hof rfl rfl rfl ?_ | refine WL_p hty rfl rfl ?_ | refine WL_nil ?_ | refine AC_seq ?_ | refine AC_region ?_ | refine AC_skip ?_ | refine AC_condT rfl ?_ | refine AC_condF rfl ?_ | refine AC_ret ?_ | refine WL_ung rfl rfl ?_ | refine WL_offT rfl rfl rfl ?_ | refine WL_offF rfl rfl rfl ?_ | refine WL_offU rfl rfl rfl ?_ | refine WL_m rfl (m_idxN hty rfl rfl rfl (by assumption) rfl) ?_ | refine ends_bool rfl ?_ | refine WL_cmp rfl rfl rfl rfl (fun _ => ?_) (fun _ => ?_) | refine AC_cond rfl (fun _ => ?_) (fun _ => ?_))
    rw [decide_eq_false k4]; rfl
  rw [decide_eq_true k4, Bool.true_and]
  obtain ⟨s, hss, hsm⟩ := get_of_lt (q2 k4)
  have rs := rsS_get hss
  have hix : idxN p.b wh = s.idx.length := by unfold idxN; rw [hss]
  have hsb := size_le_sizesS hsm
  have hsl : s.idx.length ≤ 1048576 := by
    have h1 := len_le_sizesA s.idx
    have h2 : s.size = sizesA s.idx + s.decT.size := rfl
    have h3 : p.b.size = sizesS p.b.sorts + sizesC p.b.cons := rfl
    omega
  have w1 : IntKind.i64.wrap (((rsA s.idx).length : Int) + 1) = (s.idx.length : Int) + 1 := by rw [rsA_length]; exact wrap_ok (by omega) (by omega)
  by_cases k5 : l.length = s.idx.length + 1
  case neg =>
    refine FC_intro hty Tryz.func237 rfl rfl rfl fun w0 => ?_
    repeat' (first | exact absurd k3 ‹_› | exact absurd k4 ‹_› | (refine absurd ?_ k5; have hq := Decidable.not_not.1 (show ¬ ((rsT l).length : Int) ≠ IntKind.i64.wrap (((rsA s.idx).length : Int) + 1) by assumption); rw [w1, rsT_length] at hq; omega) | refine WL_call 0 rfl hsp rfl rfl rfl ?_ | refine WL_call 0 rfl hof rfl rfl rfl ?_ | refine WL_m rfl (m_idxL hty rfl rfl rfl q1 rs rfl) ?_ | refine WL_p hty rfl rfl ?_ | refine WL_nil ?_ | refine AC_seq ?_ | refine AC_region ?_ | refine AC_skip ?_ | refine AC_condT rfl ?_ | refine AC_condF rfl ?_ | refine AC_ret ?_ | refine WL_ung rfl rfl ?_ | refine WL_offT rfl rfl rfl ?_ | refine WL_offF rfl rfl rfl ?_ | refine WL_offU rfl rfl rfl ?_ | refine WL_m rfl (m_idxN hty rfl rfl rfl (by assumption) rfl) ?_ | refine ends_bool rfl ?_ | refine WL_cmp rfl rfl rfl rfl (fun _ => ?_) (fun _ => ?_) | refine AC_cond rfl (fun _ => ?_) (fun _ => ?_))
    rw [hix, decide_eq_false k5]; rfl
  rw [hix, decide_eq_true k5, Bool.true_and]
  have n5 : ¬ ((rsT l).length : Int) ≠ IntKind.i64.wrap (((rsA s.idx).length : Int) + 1) := by rw [w1, rsT_length]; omega
  have w2 : IntKind.i64.wrap (((rsT l).length : Int) - 1) = ((l.length - 1 : Nat) : Int) := by rw [rsT_length]; exact (wrap_ok (by omega) (by omega)).trans (by omega)
  obtain ⟨la, hla, hlm⟩ := get_of_lt (show l.length - 1 < l.length by omega)
  have rla := rsT_get hla
  have hgd : l.getD (l.length - 1) zT = la := by rw [List.getD_eq_getElem?_getD, hla]; rfl
  have hlas := size_le_sizes hlm
  have hsp2 := split_spec la (by omega)
  have hsz2 := split_sizes la
  obtain ⟨hj1, hj2⟩ := split_inv (Sub t.depth) Sub.kid (t := la) (hi2 la hlm)
  have hgs := guarded_spec p (splitT la).1 hl (formedT_numle hj1.1) hm
  have hp2 := pall_spec p (splitT la).2 g (by omega) (fun a ha => h a (by have := size_le_sizes ha; omega) (hj2 a ha).1 (hj2 a ha).2)
  have htk := sizes_take l (l.length - 1)
  have hp1 := pall_spec p (l.take (l.length - 1)) g (by omega) (fun a ha => h a (by have := size_le_sizes (List.mem_of_mem_take ha); omega) (hi2 a (List.mem_of_mem_take ha)).1 (hi2 a (List.mem_of_mem_take ha)).2)
  have hrt : rsT (l.take (l.length - 1)) = ((rsT l).take (l.length - 1)).drop 0 := by rw [List.drop_zero, rsT_map, rsT_map, List.map_take]
  rw [show sT (l.take (l.length - 1)) = .lst 3 (((rsT l).take (l.length - 1)).drop 0) false from congrArg (fun r => AV.lst 3 r false) hrt] at hp1
  have h0 : 0 ≤ IntKind.i64.wrap (((rsT l).length : Int) - 1) := by rw [w2]; exact Int.natCast_nonneg _
  have rlw : (rsT l)[(IntKind.i64.wrap (((rsT l).length : Int) - 1)).toNat]? = some (cT la) := by rw [w2]; exact rla
  rw [hgd]
  obtain ⟨⟨gi, gb⟩, hG⟩ : ∃ G, G = guardI p.args p.more (splitT la).1 := ⟨_, rfl⟩
  rw [← hG] at hgs ⊢
  simp only at hgs ⊢
  refine FC_intro hty Tryz.func237 rfl rfl rfl fun w0 => ?_
  cases gb
  all_goals
    repeat' (first | exact absurd k3 ‹_› | exact absurd k4 ‹_› | exact absurd (by assumption) n5 | refine WL_call 0 rfl hsp rfl rfl rfl ?_ | refine WL_call 0 rfl hof rfl rfl rfl ?_ | refine WL_call 0 rfl hsp2 rfl rfl rfl ?_ | refine WL_call 0 rfl hgs rfl rfl rfl ?_ | (refine AC_less (less_sub (l := [(2, _), (6, _), (9, _), (11, _), (13, _)]) (bl := [(2, _)]) ⟨⟨_, rfl, .inl ⟨.refl _, rfl⟩⟩, ⟨_, rfl, .inl ⟨.refl _, rfl⟩⟩, ⟨_, rfl, .inl ⟨.refl _, rfl⟩⟩, ⟨_, rfl, .inl ⟨.refl _, rfl⟩⟩, ⟨_, rfl, .inl ⟨.refl _, rfl⟩⟩, trivial⟩ ⟨⟨⟨_, rfl, .refl _⟩, rfl⟩, trivial⟩) ?_; refine AC_drawnE (id := 10) tbPosit2237_10 rfl (by kernel_rfl) ?_) | refine WE_m rfl (m_sliceL hty 0 (l.length - 1) rfl rfl rfl ⟨_, _, rfl, w2⟩ (Nat.zero_le _) (by rw [rsT_length]; omega) rfl) ?_ | refine WE_callB rfl hp1 rfl (fun _ => ?_) (fun _ => ?_) | refine WE_callB rfl hp2 rfl (fun _ => ?_) (fun _ => ?_) | refine WL_m rfl (m_idxL hty rfl rfl rfl q1 rs rfl) ?_ | refine WL_m rfl (m_idxL hty rfl rfl rfl h0 rlw rfl) ?_ | refine WE_cons (.inl ⟨rfl, stepE_ok hty rfl rfl⟩) ?_ | refine WE_ung rfl rfl ?_ | refine WE_offT rfl rfl rfl ?_ | refine WE_offF rfl rfl rfl ?_ | refine WE_offU rfl rfl rfl ?_ | refine WE_nil ⟨by kernel_rfl, ?_⟩ | refine WL_p hty rfl rfl ?_ | refine WL_nil ?_ | refine AC_seq ?_ | refine AC_region ?_ | refine AC_skip ?_ | refine AC_condT rfl ?_ | refine AC_condF rfl ?_ | refine AC_ret ?_ | refine WL_ung rfl rfl ?_ | refine WL_offT rfl rfl rfl ?_ | refine WL_offF rfl rfl rfl ?_ | refine WL_offU rfl rfl rfl ?_ | refine WL_m rfl (m_idxN hty rfl rfl rfl (by assumption) rfl) ?_ | refine ends_bool rfl ?_ | refine WL_cmp rfl rfl rfl rfl (fun _ => ?_) (fun _ => ?_) | refine AC_cond rfl (fun _ => ?_) (fun _ => ?_))
    all_goals first
      | rfl
      | (rename_i x1 x2; rw [x1, x2]; rfl)
      | (rename_i x1; rw [x1]; rfl)

end Go.Proofs.YtoknnfhgoikpiaaGreat

/-
  Positivity: clean terms.
-/
namespace Go.Proofs.YtoknnfhgoikpiaaGreat
set_option linter.unusedSimpArgs false
set_option linter.unusedVariables false
open Go.Aw Go.RowKit
def tbPosit3194_14 : List (Nat × List Nat) := [(0, []), (1, []), (2, [1]), (3, []), (4, [1, 2, 3]), (5, [0, 1, 2, 3, 4]), (6, []), (7, [0, 1, 2, 3, 4, 5, 6]), (8, [0, 1, 2, 3, 4, 5, 6, 7])]
attribute [local irreducible] WL AC WD WE MStep OkOp

set_option maxRecDepth 4000 in
set_option maxHeartbeats 4000000 in
theorem clean_all (b : Bl) (base : Int) (args : List Ar) (hb : b.size ≤ 1048576) (hl : args.length ≤ 1048576) : ∀ n, n ≤ 1048576 → ∀ (t : Tm) (m : Int), t.size ≤ n → formedT t = true → 0 ≤ m → m + t.depth ≤ 8388608 →
    FC Tryz.prog 194 [aP ⟨b, base, args, m⟩, aT t] (.bool (cleanF b base args n m t)) := by
  intro n
  induction n with
  | zero => intro hn t m ht; have := t.size_pos; omega
  | succ n ih =>
  intro hn t m ht hfm hm0 hm
  have ih := ih (by omega)
  have hs := t.size_eq
  have hdp := t.depth_eq
  have hlen := len_le_sizes t.kids
  have hnum := formedT_numle hfm
  by_cases k1 : t.kind = 1
  · have hc : cleanF b base args (n + 1) m t = !(guardI args m t).2 := by rw [cleanF, if_pos k1]
    have hg := guarded_spec ⟨b, base, args, m⟩ t hl hnum ⟨hm0, by show m ≤ 8388608; omega⟩
    rw [hc]
    obtain ⟨⟨gi, gb⟩, hG⟩ : ∃ G, G = guardI args m t := ⟨_, rfl⟩
    simp only at hg
    rw [← hG] at hg ⊢
    simp only at hg ⊢
    refine FC_intro hty Tryz.func194 rfl rfl rfl fun w0 => ?_
    repeat' (first | exact absurd k1 ‹_› | refine WL_call 0 rfl hg rfl rfl rfl ?_ | refine WL_p hty rfl rfl ?_ | refine WL_nil ?_ | refine AC_seq ?_ | refine AC_region ?_ | refine AC_block ?_ | refine AC_skip ?_ | refine AC_condT rfl ?_ | refine AC_condF rfl ?_ | refine AC_exit ?_ | refine AC_ret ?_ | refine WL_m rfl (m_idxN hty rfl rfl rfl (by assumption) rfl) ?_ | refine ends_bool rfl ?_ | refine WL_cmp rfl rfl rfl rfl (fun _ => ?_) (fun _ => ?_) | refine AC_cond rfl (fun _ => ?_) (fun _ => ?_))
    rfl
  by_cases k3 : t.kind = 3
  · have hc : cleanF b base args (n + 1) m t = decide ((ofB b base t.num).1 = 0) := by rw [cleanF, if_neg k1, if_pos k3]
    have hof := of4_spec b base t.num hb (by omega)
    rw [hc]
    refine FC_intro hty Tryz.func194 rfl rfl rfl fun w0 => ?_
    repeat' (first | exact absurd (by assumption) k1 | exact absurd k3 ‹_› | refine WL_call 0 rfl hof rfl rfl rfl ?_ | refine WL_p hty rfl rfl ?_ | refine WL_nil ?_ | refine AC_seq ?_ | refine AC_region ?_ | refine AC_block ?_ | refine AC_skip ?_ | refine AC_condT rfl ?_ | refine AC_condF rfl ?_ | refine AC_exit ?_ | refine AC_ret ?_ | refine WL_m rfl (m_idxN hty rfl rfl rfl (by assumption) rfl) ?_ | refine ends_bool rfl ?_ | refine WL_cmp rfl rfl rfl rfl (fun _ => ?_) (fun _ => ?_) | refine AC_cond rfl (fun _ => ?_) (fun _ => ?_))
    all_goals simp [*]
  have hcc : cleanF b base args (n + 1) m t = if t.kind = 6 ∧ decodesG (cleanF b base args n m) ⟨b, base, args, m⟩ t = true then true else kidsAll (cleanF b base args n) m t.kind 0 t.kids := by rw [cleanF, if_neg k1, if_neg k3]
  have hde := decodes_spec ⟨b, base, args, m⟩ t (cleanF b base args n m) hb hl ⟨hm0, by show m ≤ 8388608; omega⟩ (by omega) hfm (fun a h1 h2 h3 => ih a m (by omega) h2 hm0 (by omega))
  by_cases kd : t.kind = 6 ∧ decodesG (cleanF b base args n m) ⟨b, base, args, m⟩ t = true
  · rw [hcc, if_pos kd]
    rw [kd.2] at hde
    have k6 := kd.1
    refine FC_intro hty Tryz.func194 rfl rfl rfl fun w0 => ?_
    repeat' (first | exact absurd (by assumption) k1 | exact absurd (by assumption) k3 | exact absurd k6 ‹_› | refine WL_call 0 rfl hde rfl rfl rfl ?_ | refine WL_p hty rfl rfl ?_ | refine WL_nil ?_ | refine AC_seq ?_ | refine AC_region ?_ | refine AC_block ?_ | refine AC_skip ?_ | refine AC_condT rfl ?_ | refine AC_condF rfl ?_ | refine AC_exit ?_ | refine AC_ret ?_ | refine WL_m rfl (m_idxN hty rfl rfl rfl (by assumption) rfl) ?_ | refine ends_bool rfl ?_ | refine WL_cmp rfl rfl rfl rfl (fun _ => ?_) (fun _ => ?_) | refine AC_cond rfl (fun _ => ?_) (fun _ => ?_))
    rfl
  rw [hcc, if_neg kd]
  have hde6 : t.kind = 6 → FC Tryz.prog 237 [aP ⟨b, base, args, m⟩, aT t] (.bool false) := fun k6 => by
    have : decodesG (cleanF b base args n m) ⟨b, base, args, m⟩ t = false := Bool.eq_false_iff.2 fun q => kd ⟨k6, q⟩
    rwa [this] at hde
  refine FC_intro hty Tryz.func194 rfl rfl rfl fun w0 => ?_
  repeat' (first | exact absurd (by assumption) k1 | exact absurd (by assumption) k3 | refine WL_call 0 rfl (hde6 (by assumption)) rfl rfl rfl ?_ | refine WL_p hty rfl rfl ?_ | refine WL_nil ?_ | refine AC_seq ?_ | refine AC_region ?_ | refine AC_block ?_ | refine AC_skip ?_ | refine AC_condT rfl ?_ | refine AC_condF rfl ?_ | refine AC_exit ?_ | refine AC_ret ?_ | refine WL_m rfl (m_idxN hty rfl rfl rfl (by assumption) rfl) ?_ | refine ends_bool rfl ?_ | refine WL_cmp rfl rfl rfl rfl (fun _ => ?_) (fun _ => ?_) | refine AC_cond rfl (fun _ => ?_) (fun _ => ?_))
  all_goals
    refine AC_for t.kids.length (fun j => kidsAll (cleanF b base args n) m t.kind 0 (t.kids.take j) = true) (fun j => ⟨envOf [(2, .ptr 2 0), (3, .ptr 3 0), (43, sT t.kids), (44, .int .i64 ((rsT t.kids).length : Nat)), (45, .int .i64 (j : Nat))], bkOf [(2, .box (cP ⟨b, base, args, m⟩)), (3, .box (cT t))]⟩)
      (less_sub ⟨⟨_, rfl, .inl ⟨.refl _, rfl⟩⟩, ⟨_, rfl, .inl ⟨.refl _, rfl⟩⟩, ⟨_, rfl, .inl ⟨.refl _, rfl⟩⟩, ⟨_, rfl, .inl ⟨.refl _, rfl⟩⟩, ⟨_, rfl, .inl ⟨.refl _, rfl⟩⟩, trivial⟩ ⟨⟨⟨_, rfl, .refl _⟩, rfl⟩, ⟨⟨_, rfl, .refl _⟩, rfl⟩, trivial⟩) rfl ?_
    intro j hj hI
    repeat' (first | refine WL_p hty rfl rfl ?_ | refine WL_nil ?_ | refine AC_seq ?_ | refine AC_region ?_ | refine AC_block ?_ | refine AC_skip ?_ | refine AC_condT rfl ?_ | refine AC_condF rfl ?_ | refine AC_exit ?_ | refine AC_ret ?_ | refine WL_m rfl (m_idxN hty rfl rfl rfl (by assumption) rfl) ?_ | refine ends_bool rfl ?_)
    refine WL_cmp rfl rfl rfl rfl (fun hc => ?_) (fun hc => ?_)
    · have hlt : j < t.kids.length := by rw [rsT_length] at hc; omega
      obtain ⟨k, hk, hmem⟩ := get_of_lt hlt
      have hks := size_le_sizes hmem
      have hkd := depth_le_depths hmem
      have rk := rsT_get hk
      have hbi : 0 ≤ bindsR t.kind (j : Nat) ∧ bindsR t.kind (j : Nat) ≤ 1 := by unfold bindsR; split <;> omega
      have hin := pin_spec ⟨b, base, args, m⟩ (bindsR t.kind (j : Nat)) ⟨by show -4194304 ≤ m + _; omega, by show m + _ ≤ 8388608; omega⟩
      have hkc := ih k (m + bindsR t.kind (j : Nat)) (by omega) (formedT_kids hfm hmem) (by omega) (by omega)
      repeat' (first | refine AC_drawnE (id := 14) tbPosit3194_14 rfl (by kernel_rfl) ?_ | refine WE_call 0 rfl (kbinds_spec _ _) rfl rfl rfl ?_ | refine WE_call 0 rfl hin rfl rfl rfl ?_ | refine WE_callB rfl hkc rfl (fun _ => ?_) (fun _ => ?_) | refine WE_cons (.inl ⟨rfl, stepE_ok hty rfl rfl⟩) ?_ | refine WE_nil ⟨by kernel_rfl, ?_⟩ | refine WL_p hty rfl rfl ?_ | refine WL_nil ?_ | refine AC_seq ?_ | refine AC_region ?_ | refine AC_block ?_ | refine AC_skip ?_ | refine AC_condT rfl ?_ | refine AC_condF rfl ?_ | refine AC_exit ?_ | refine AC_ret ?_ | refine WL_m rfl (m_idxN hty rfl rfl rfl (by assumption) rfl) ?_ | refine ends_bool rfl ?_ | refine WL_cmp rfl rfl rfl rfl (fun _ => ?_) (fun _ => ?_) | refine AC_cond rfl (fun _ => ?_) (fun _ => ?_))
      all_goals rename_i hq
      · refine ⟨hlt, by rw [kidsAll_next _ _ _ hk, hI, hq]; rfl, (less_sub ⟨⟨_, rfl, .inl ⟨.refl _, rfl⟩⟩, ⟨_, rfl, .inl ⟨.refl _, rfl⟩⟩, ⟨_, rfl, .inl ⟨.refl _, rfl⟩⟩, ⟨_, rfl, .inl ⟨.refl _, rfl⟩⟩, ⟨_, rfl, see_eq ?_ rfl⟩, trivial⟩ ⟨⟨⟨_, rfl, .refl _⟩, rfl⟩, ⟨⟨_, rfl, .refl _⟩, rfl⟩, trivial⟩)⟩
        exact congrArg (AV.int .i64) ((wrap_ok (by omega) (by omega)).trans (by omega))
      · rw [kidsAll_split _ _ _ hk, hq]; simp
    · obtain rfl : j = t.kids.length := by rw [rsT_length] at hc; omega
      rw [List.take_length] at hI
      repeat' (first | refine WL_p hty rfl rfl ?_ | refine WL_nil ?_ | refine AC_seq ?_ | refine AC_region ?_ | refine AC_block ?_ | refine AC_skip ?_ | refine AC_condT rfl ?_ | refine AC_condF rfl ?_ | refine AC_exit ?_ | refine AC_ret ?_ | refine WL_m rfl (m_idxN hty rfl rfl rfl (by assumption) rfl) ?_ | refine ends_bool rfl ?_ | refine WL_cmp rfl rfl rfl rfl (fun _ => ?_) (fun _ => ?_) | refine AC_cond rfl (fun _ => ?_) (fun _ => ?_))
      exact hI.symm

end Go.Proofs.YtoknnfhgoikpiaaGreat

/-
  Positivity: good terms, indices.
-/
namespace Go.Proofs.YtoknnfhgoikpiaaGreat
set_option linter.unusedSimpArgs false
set_option linter.unusedVariables false
open Go.Aw Go.RowKit
def tbPosit4238_13 : List (Nat × List Nat) := [(0, []), (1, []), (2, []), (3, [1, 2]), (4, [1, 2, 3]), (5, [0, 1, 2, 3, 4]), (6, [0, 1, 2, 3, 4, 5]), (7, [0, 1, 2, 3, 4, 5, 6]), (8, [0, 1, 2, 3, 4, 5, 6]), (9, [0, 1, 2, 3, 4, 5, 6, 7]), (10, [0, 1, 2, 3, 4, 5, 6, 7, 8, 9])]
def tbPosit4238_14 : List (Nat × List Nat) := [(0, []), (1, [0]), (2, [0, 1]), (3, [0, 1, 2]), (4, [0, 1, 2, 3]), (5, [0, 1, 2, 3]), (6, [0, 1, 2, 3]), (7, [0, 1, 2, 3, 5, 6]), (8, [0, 1, 2, 3, 5, 6, 7]), (9, [0, 1, 2, 3, 4, 5, 6, 7, 8]), (10, [0, 1, 2, 3, 4, 5, 6, 7, 8, 9]), (11, [0, 1, 2, 3, 4, 5, 6, 7, 8, 9, 10]), (12, [0, 1, 2, 3, 4, 5, 6, 7, 8, 9, 10, 11])]
def tbPosit4238_15 : List (Nat × List Nat) := [(0, []), (1, [0]), (2, [0, 1]), (3, [0, 1, 2]), (4, [0, 1, 2, 3]), (5, [0, 1, 2, 3, 4]), (6, [0, 1, 2, 3, 4, 5]), (7, [0, 1, 2, 3, 4, 5, 6]), (8, [0, 1, 2, 3, 4, 5, 6, 7]), (9, [0, 1, 2, 3, 4, 5, 6, 7, 8]), (10, [0, 1, 2, 3, 4, 5, 6, 7, 8]), (11, [0, 1, 2, 3, 4, 5, 6, 7, 8]), (12, [0, 1, 2, 3, 4, 5, 6, 7, 8, 10, 11]), (13, [0, 1, 2, 3, 4, 5, 6, 7, 8, 10, 11, 12]), (14, [0, 1, 2, 3, 4, 5, 6, 7, 8]), (15, [0, 1, 2, 3, 4, 5, 6, 7, 8, 9, 10, 11, 12, 13, 14]), (16, [0, 1, 2, 3, 4, 5, 6, 7, 8, 9, 10, 11, 12, 13, 14, 15]), (17, [0, 1, 2, 3, 4, 5, 6, 7, 8, 9, 10, 11, 12, 13, 14, 15, 16]), (18, [0, 1, 2, 3, 4, 5, 6, 7, 8, 9, 10, 11, 12, 13, 14, 15, 16, 17])]
attribute [local irreducible] WL AC WD WE MStep OkOp

def cleanT (b : Bl) (base : Int) (args : List Ar) (m : Int) (t : Tm) : Bool := cleanF b base args 1048576 m t
theorem clean_spec (b : Bl) (base : Int) (args : List Ar) (m : Int) (t : Tm) (hb : b.size ≤ 1048576) (hl : args.length ≤ 1048576) (hs : t.size ≤ 1048576) (hfm : formedT t = true) (h0 : 0 ≤ m) (hm : m + t.depth ≤ 8388608) :
    FC Tryz.prog 194 [aP ⟨b, base, args, m⟩, aT t] (.bool (cleanT b base args m t)) := clean_all b base args hb hl 1048576 (Nat.le_refl _) t m hs hfm h0 hm
attribute [local irreducible] cleanT

def allZ {α β : Type} (p : α → β → Bool) : List α → List β → Bool
  | [], _ => true
  | _ :: _, [] => true
  | a :: l, b :: r => p a b && allZ p l r
theorem allZ_all {α β : Type} {p : α → β → Bool} : ∀ {l : List α} {r : List β}, (∀ (i : Nat) (a : α) (b : β), l[i]? = some a → r[i]? = some b → p a b = true) → allZ p l r = true
  | [], _, _ => rfl
  | _ :: _, [], _ => rfl
  | a :: l, b :: r, q => by
    simp only [allZ, q 0 a b rfl rfl, Bool.true_and]
    exact allZ_all (fun i a b h1 h2 => q (i + 1) a b (by simpa using h1) (by simpa using h2))
theorem allZ_not {α β : Type} {p : α → β → Bool} : ∀ {l : List α} {r : List β} {i : Nat} {a : α} {b : β}, l[i]? = some a → r[i]? = some b → p a b = false → allZ p l r = false
  | a :: l, b :: r, 0, x, y, h1, h2, hp => by
    obtain rfl : a = x := by simpa using h1
    obtain rfl : b = y := by simpa using h2
    simp only [allZ, hp, Bool.false_and]
  | a :: l, b :: r, i + 1, x, y, h1, h2, hp => by
    simp only [allZ, allZ_not (l := l) (r := r) (by simpa using h1) (by simpa using h2) hp, Bool.and_false]
  | [], _, _, _, _, h, _, _ => by simp at h
  | _ :: _, [], _, _, _, _, h, _ => by simp at h
theorem allZ_step {α β : Type} {p : α → β → Bool} {l : List α} {r : List β} {j : Nat} {a : α} {b : β} (hI : ∀ (i : Nat) (a : α) (b : β), i < j → l[i]? = some a → r[i]? = some b → p a b = true) (h1 : l[j]? = some a) (h2 : r[j]? = some b) (hp : p a b = true) :
    ∀ (i : Nat) (a : α) (b : β), i < j + 1 → l[i]? = some a → r[i]? = some b → p a b = true := by
  intro i x y hi hx hy
  rcases Nat.lt_or_ge i j with q | q
  · exact hI i x y q hx hy
  · obtain rfl : i = j := by omega
    rw [h1] at hx
    rw [h2] at hy
    obtain rfl := Option.some.inj hx
    obtain rfl := Option.some.inj hy
    exact hp

theorem guardI_true {args : List Ar} {m : Int} {t : Tm} (h : (guardI args m t).2 = true) : 0 ≤ (guardI args m t).1 ∧ ∃ a, args[(guardI args m t).1.toNat]? = some a := by
  unfold guardI at *
  split at h
  · rename_i q
    rw [if_pos q]
    refine ⟨by show 0 ≤ (args.length : Int) - 1 - (t.num - m); omega, ?_⟩
    obtain ⟨a, ha, _⟩ := get_of_lt (show ((args.length : Int) - 1 - (t.num - m)).toNat < args.length by omega)
    exact ⟨a, ha⟩
  · cases h

def domN (args : List Ar) (i : Int) : Nat := match args[i.toNat]? with
  | some a => a.dom.length
  | none => 0
def conArgs (b : Bl) (i : Int) : List Ar := match b.cons[i.toNat]? with
  | some c => c.args
  | none => []
def goodG (cl gd gu : Tm → Bool) (a : Ar) (x : Tm) : Bool := if a.rc = true then (if a.dom.length = 0 then gd x else gu x) else cl x
def goodF (b : Bl) (base : Int) (args : List Ar) (m c : Int) : Nat → Tm → Bool
  | 0, _ => true
  | f + 1, t =>
    if (guardI args m (splitT t).1).2 = true then decide ((splitT t).2.length = domN args (guardI args m (splitT t).1).1) && (splitT t).2.all (cleanT b base args m)
    else decide ((splitT t).1.kind = 3) && (decide ((ofB b base (splitT t).1.num).1 = 5) && (decide ((ofB b base (splitT t).1.num).2 < c) && (decide ((splitT t).2.length = (conArgs b (ofB b base (splitT t).1.num).2).length) &&
      allZ (goodG (cleanT b base args m) (goodF b base args m c f) (fun x => (guardI args m x).2)) (conArgs b (ofB b base (splitT t).1.num).2) (splitT t).2)))

set_option maxRecDepth 4000 in
set_option maxHeartbeats 16000000 in
theorem good_all (b : Bl) (base : Int) (args : List Ar) (m c : Int) (hb : b.size ≤ 1048576) (hl : args.length ≤ 1048576) (hm0 : 0 ≤ m) : ∀ n, n ≤ 1048576 → ∀ (t : Tm), t.size ≤ n → formedT t = true → m + t.depth ≤ 8388608 →
    FC Tryz.prog 238 [aP ⟨b, base, args, m⟩, aT t, .int .i64 c] (.bool (goodF b base args m c n t)) := by
  intro n
  induction n with
  | zero => intro hn t ht; have := t.size_pos; omega
  | succ n ih =>
  intro hn t ht hfm hm
  have ih := ih (by omega)
  have hsp := split_spec t (by omega)
  have hsz := split_sizes t
  obtain ⟨hi1, hi2⟩ := split_inv (Sub t.depth) Sub.kid (t := t) ⟨hfm, Nat.le_refl _⟩
  have hhp := (splitT t).1.size_pos
  obtain ⟨f, hf⟩ : ∃ f, f = (splitT t).1 := ⟨_, rfl⟩
  obtain ⟨l, hll⟩ : ∃ l, l = (splitT t).2 := ⟨_, rfl⟩
  have hd : goodF b base args m c (n + 1) t = if (guardI args m f).2 = true then decide (l.length = domN args (guardI args m f).1) && l.all (cleanT b base args m)
    else decide (f.kind = 3) && (decide ((ofB b base f.num).1 = 5) && (decide ((ofB b base f.num).2 < c) && (decide (l.length = (conArgs b (ofB b base f.num).2).length) &&
      allZ (goodG (cleanT b base args m) (goodF b base args m c n) (fun x => (guardI args m x).2)) (conArgs b (ofB b base f.num).2) l))) := by rw [hf, hll]; rfl
  rw [hd]
  rw [← hf, ← hll] at hsp
  rw [← hf, ← hll] at hsz
  rw [← hf] at hi1 hhp
  rw [← hll] at hi2
  clear hd hf hll
  have hnum := formedT_numle hi1.1
  have hll := len_le_sizes l
  have hg := guarded_spec ⟨b, base, args, m⟩ f hl hnum ⟨hm0, by show m ≤ 8388608; omega⟩
  have hgt := guardI_true (args := args) (m := m) (t := f)
  obtain ⟨⟨gi, gb⟩, hG⟩ : ∃ G, G = guardI args m f := ⟨_, rfl⟩
  simp only at hg
  rw [← hG] at hg hgt ⊢
  simp only at hg hgt ⊢
  cases gb
  · rw [if_neg (by decide)]
    by_cases k3 : f.kind = 3
    case neg =>
      refine FC_intro hty Tryz.func238 rfl rfl rfl fun w0 => ?_
      repeat' (first | exact absurd (show f.kind ≠ 3 from k3) ‹_› | refine WL_call 0 rfl hsp rfl rfl rfl ?_ | refine WL_call 0 rfl hg rfl rfl rfl ?_ | refine WL_p hty rfl rfl ?_ | refine WL_nil ?_ | refine AC_seq ?_ | refine AC_region ?_ | refine AC_block ?_ | refine AC_skip ?_ | refine AC_condT rfl ?_ | refine AC_condF rfl ?_ | refine AC_exit ?_ | refine AC_ret ?_ | refine WL_ung rfl rfl ?_ | refine WL_offT rfl rfl rfl ?_ | refine WL_offF rfl rfl rfl ?_ | refine WL_offU rfl rfl rfl ?_ | refine WL_m rfl (m_idxN hty rfl rfl rfl (by assumption) rfl) ?_ | refine ends_bool rfl ?_ | refine WL_cmp rfl rfl rfl rfl (fun _ => ?_) (fun _ => ?_) | refine AC_cond rfl (fun _ => ?_) (fun _ => ?_))
      rw [decide_eq_false k3]; rfl
    have hof := of4_spec b base f.num hb (by omega)
    obtain ⟨q1, _, q2⟩ := ofB_kind (b := b) (base := base) (n := f.num)
    obtain ⟨⟨kd, wh⟩, hK⟩ : ∃ K, K = ofB b base f.num := ⟨_, rfl⟩
    rw [← hK] at hof q1 q2 ⊢
    simp only at hof q1 q2 ⊢
    rw [decide_eq_true k3, Bool.true_and]
    by_cases k4 : kd = 5
    case neg =>
      refine FC_intro hty Tryz.func238 rfl rfl rfl fun w0 => ?_
      repeat' (first | exact absurd k3 ‹_› | exact absurd (show kd ≠ 5 from k4) ‹_› | refine WL_call 0 rfl hsp rfl rfl rfl ?_ | refine WL_call 0 rfl hg rfl rfl rfl ?_ | refine WL_call 0 rfl hof rfl rfl rfl ?_ | refine WL_p hty rfl rfl ?_ | refine WL_nil ?_ | refine AC_seq ?_ | refine AC_region ?_ | refine AC_block ?_ | refine AC_skip ?_ | refine AC_condT rfl ?_ | refine AC_condF rfl ?_ | refine AC_exit ?_ | refine AC_ret ?_ | refine WL_ung rfl rfl ?_ | refine WL_offT rfl rfl rfl ?_ | refine WL_offF rfl rfl rfl ?_ | refine WL_offU rfl rfl rfl ?_ | refine WL_m rfl (m_idxN hty rfl rfl rfl (by assumption) rfl) ?_ | refine ends_bool rfl ?_ | refine WL_cmp rfl rfl rfl rfl (fun _ => ?_) (fun _ => ?_) | refine AC_cond rfl (fun _ => ?_) (fun _ => ?_))
      rw [decide_eq_false k4]; rfl
    rw [decide_eq_true k4, Bool.true_and]
    by_cases k5 : c ≤ wh
    case pos =>
      refine FC_intro hty Tryz.func238 rfl rfl rfl fun w0 => ?_
      repeat' (first | exact absurd k3 ‹_› | exact absurd k4 ‹_› | exact absurd k5 ‹_› | refine WL_call 0 rfl hsp rfl rfl rfl ?_ | refine WL_call 0 rfl hg rfl rfl rfl ?_ | refine WL_call 0 rfl hof rfl rfl rfl ?_ | refine WL_p hty rfl rfl ?_ | refine WL_nil ?_ | refine AC_seq ?_ | refine AC_region ?_ | refine AC_block ?_ | refine AC_skip ?_ | refine AC_condT rfl ?_ | refine AC_condF rfl ?_ | refine AC_exit ?_ | refine AC_ret ?_ | refine WL_ung rfl rfl ?_ | refine WL_offT rfl rfl rfl ?_ | refine WL_offF rfl rfl rfl ?_ | refine WL_offU rfl rfl rfl ?_ | refine WL_m rfl (m_idxN hty rfl rfl rfl (by assumption) rfl) ?_ | refine ends_bool rfl ?_ | refine WL_cmp rfl rfl rfl rfl (fun _ => ?_) (fun _ => ?_) | refine AC_cond rfl (fun _ => ?_) (fun _ => ?_))
      rw [decide_eq_false (by omega)]; rfl
    rw [show decide (wh < c) = true from decide_eq_true (by omega), Bool.true_and]
    obtain ⟨co, hco, hcm⟩ := get_of_lt (q2 k4)
    have rco := rsC_get hco
    have hca : conArgs b wh = co.args := by unfold conArgs; rw [hco]
    have hcs := size_le_sizesC hcm
    have hcl : co.args.length ≤ 1048576 := by
      have h1 := len_le_sizesA co.args
      have h2 : co.size = sizesA co.args + sizes co.idx + co.dec.size := rfl
      have h3 : b.size = sizesS b.sorts + sizesC b.cons := rfl
      omega
    rw [hca]
    by_cases k6 : l.length = co.args.length
    case neg =>
      refine FC_intro hty Tryz.func238 rfl rfl rfl fun w0 => ?_
      repeat' (first | exact absurd k3 ‹_› | exact absurd k4 ‹_› | exact absurd (by assumption) k5 | (refine absurd ?_ k6; have hq := Decidable.not_not.1 (show ¬ ((rsT l).length : Int) ≠ ((rsA co.args).length : Int) by assumption); rw [rsA_length, rsT_length] at hq; omega) | refine WL_call 0 rfl hsp rfl rfl rfl ?_ | refine WL_call 0 rfl hg rfl rfl rfl ?_ | refine WL_call 0 rfl hof rfl rfl rfl ?_ | refine WL_m rfl (m_idxL hty rfl rfl rfl q1 rco rfl) ?_ | refine WL_p hty rfl rfl ?_ | refine WL_nil ?_ | refine AC_seq ?_ | refine AC_region ?_ | refine AC_block ?_ | refine AC_skip ?_ | refine AC_condT rfl ?_ | refine AC_condF rfl ?_ | refine AC_exit ?_ | refine AC_ret ?_ | refine WL_ung rfl rfl ?_ | refine WL_offT rfl rfl rfl ?_ | refine WL_offF rfl rfl rfl ?_ | refine WL_offU rfl rfl rfl ?_ | refine WL_m rfl (m_idxN hty rfl rfl rfl (by assumption) rfl) ?_ | refine ends_bool rfl ?_ | refine WL_cmp rfl rfl rfl rfl (fun _ => ?_) (fun _ => ?_) | refine AC_cond rfl (fun _ => ?_) (fun _ => ?_))
      rw [decide_eq_false k6]; rfl
    rw [decide_eq_true k6, Bool.true_and]
    have n6 : ¬ ((rsT l).length : Int) ≠ ((rsA co.args).length : Int) := by rw [rsA_length, rsT_length]; omega
    refine FC_intro hty Tryz.func238 rfl rfl rfl fun w0 => ?_
    repeat' (first | exact absurd k3 ‹_› | exact absurd k4 ‹_› | exact absurd (by assumption) k5 | exact absurd (by assumption) n6 | refine WL_call 0 rfl hsp rfl rfl rfl ?_ | refine WL_call 0 rfl hg rfl rfl rfl ?_ | refine WL_call 0 rfl hof rfl rfl rfl ?_ | refine WL_m rfl (m_idxL hty rfl rfl rfl q1 rco rfl) ?_ | refine WL_p hty rfl rfl ?_ | refine WL_nil ?_ | refine AC_seq ?_ | refine AC_region ?_ | refine AC_block ?_ | refine AC_skip ?_ | refine AC_condT rfl ?_ | refine AC_condF rfl ?_ | refine AC_exit ?_ | refine AC_ret ?_ | refine WL_ung rfl rfl ?_ | refine WL_offT rfl rfl rfl ?_ | refine WL_offF rfl rfl rfl ?_ | refine WL_offU rfl rfl rfl ?_ | refine WL_m rfl (m_idxN hty rfl rfl rfl (by assumption) rfl) ?_ | refine ends_bool rfl ?_ | refine WL_cmp rfl rfl rfl rfl (fun _ => ?_) (fun _ => ?_) | refine AC_cond rfl (fun _ => ?_) (fun _ => ?_))
    refine AC_for co.args.length (fun j => ∀ (i : Nat) (a : Ar) (x : Tm), i < j → co.args[i]? = some a → l[i]? = some x → goodG (cleanT b base args m) (goodF b base args m c n) (fun x => (guardI args m x).2) a x = true)
      (fun j => ⟨envOf [(2, .int .i64 c), (3, .ptr 3 0), (8, sT l), (83, sA co.args), (84, .int .i64 ((rsA co.args).length : Nat)), (85, .int .i64 (j : Nat))], bkOf [(3, .box (cP ⟨b, base, args, m⟩))]⟩)
      (less_sub ⟨⟨_, rfl, .inl ⟨.refl _, rfl⟩⟩, ⟨_, rfl, .inl ⟨.refl _, rfl⟩⟩, ⟨_, rfl, .inl ⟨.refl _, rfl⟩⟩, ⟨_, rfl, .inl ⟨.refl _, rfl⟩⟩, ⟨_, rfl, .inl ⟨.refl _, rfl⟩⟩, ⟨_, rfl, .inl ⟨.refl _, rfl⟩⟩, trivial⟩ ⟨⟨⟨_, rfl, .refl _⟩, rfl⟩, trivial⟩) (fun i a x hi => absurd hi (Nat.not_lt_zero _)) ?_
    intro j hj hI
    repeat' (first | refine WL_p hty rfl rfl ?_ | refine WL_nil ?_ | refine AC_seq ?_ | refine AC_region ?_ | refine AC_block ?_ | refine AC_skip ?_ | refine AC_condT rfl ?_ | refine AC_condF rfl ?_ | refine AC_exit ?_ | refine AC_ret ?_ | refine WL_ung rfl rfl ?_ | refine WL_offT rfl rfl rfl ?_ | refine WL_offF rfl rfl rfl ?_ | refine WL_offU rfl rfl rfl ?_ | refine WL_m rfl (m_idxN hty rfl rfl rfl (by assumption) rfl) ?_ | refine ends_bool rfl ?_)
    refine WL_cmp rfl rfl rfl rfl (fun hc => ?_) (fun hc => ?_)
    · have hlt : j < co.args.length := by rw [rsA_length] at hc; omega
      obtain ⟨a, ha, _⟩ := get_of_lt hlt
      obtain ⟨x, hx, hxm⟩ := get_of_lt (k6 ▸ hlt)
      have ra := rsA_get ha
      have rx := rsT_get hx
      have hxs := size_le_sizes hxm
      have hxi := hi2 x hxm
      have hxd := hxi.2
      have hg2 := guarded_spec ⟨b, base, args, m⟩ x hl (formedT_numle hxi.1) ⟨hm0, by show m ≤ 8388608; omega⟩
      have hcl2 := clean_spec b base args m x hb hl (by omega) hxi.1 hm0 (by omega)
      have hgd2 := ih x (by omega) hxi.1 (by omega)
      have hgg : goodG (cleanT b base args m) (goodF b base args m c n) (fun x => (guardI args m x).2) a x = if a.rc = true then (if a.dom.length = 0 then goodF b base args m c n x else (guardI args m x).2) else cleanT b base args m x := rfl
      obtain ⟨⟨gi2, gb2⟩, hG2⟩ : ∃ G, G = guardI args m x := ⟨_, rfl⟩
      simp only at hg2
      rw [← hG2] at hg2 hgg
      simp only at hg2 hgg
      have hst : ∀ s : AS, goodG (cleanT b base args m) (goodF b base args m c n) (fun x => (guardI args m x).2) a x = true → Less s ⟨envOf [(2, .int .i64 c), (3, .ptr 3 0), (8, sT l), (83, sA co.args), (84, .int .i64 ((rsA co.args).length : Nat)), (85, .int .i64 ((j + 1 : Nat) : Int))], bkOf [(3, .box (cP ⟨b, base, args, m⟩))]⟩ →
          j < co.args.length ∧ (∀ (i : Nat) (a : Ar) (x : Tm), i < j + 1 → co.args[i]? = some a → l[i]? = some x → goodG (cleanT b base args m) (goodF b base args m c n) (fun x => (guardI args m x).2) a x = true) ∧ Less s ⟨envOf [(2, .int .i64 c), (3, .ptr 3 0), (8, sT l), (83, sA co.args), (84, .int .i64 ((rsA co.args).length : Nat)), (85, .int .i64 ((j + 1 : Nat) : Int))], bkOf [(3, .box (cP ⟨b, base, args, m⟩))]⟩ :=
        fun s h1 h2 => ⟨hlt, allZ_step hI ha hx h1, h2⟩
      obtain ⟨rc, tt, dd, so, ix⟩ := a
      cases rc
      · rw [if_neg (show ¬ false = true by decide)] at hgg
        repeat' (first | refine AC_drawnE (id := 13) tbPosit4238_13 rfl (by kernel_rfl) ?_ | refine AC_drawnE (id := 14) tbPosit4238_14 rfl (by kernel_rfl) ?_ | refine AC_drawnE (id := 15) tbPosit4238_15 rfl (by kernel_rfl) ?_ | refine WE_m rfl (m_idxN (i := j) hty rfl rfl rfl rx rfl) ?_ | refine WE_call 0 rfl hg2 rfl rfl rfl ?_ | refine WE_callB rfl hcl2 rfl (fun _ => ?_) (fun _ => ?_) | refine WE_cons (.inl ⟨rfl, stepE_ok hty rfl rfl⟩) ?_ | refine WE_cons (.inl ⟨rfl, m_idxN hty rfl rfl rfl (by assumption) rfl⟩) ?_ | refine WE_ung rfl rfl ?_ | refine WE_offT rfl rfl rfl ?_ | refine WE_offF rfl rfl rfl ?_ | refine WE_offU rfl rfl rfl ?_ | refine WE_nil ⟨by kernel_rfl, ?_⟩ | refine WL_p hty rfl rfl ?_ | refine WL_nil ?_ | refine AC_seq ?_ | refine AC_region ?_ | refine AC_block ?_ | refine AC_skip ?_ | refine AC_condT rfl ?_ | refine AC_condF rfl ?_ | refine AC_exit ?_ | refine AC_ret ?_ | refine WL_ung rfl rfl ?_ | refine WL_offT rfl rfl rfl ?_ | refine WL_offF rfl rfl rfl ?_ | refine WL_offU rfl rfl rfl ?_ | refine WL_m rfl (m_idxN hty rfl rfl rfl (by assumption) rfl) ?_ | refine ends_bool rfl ?_ | refine WL_cmp rfl rfl rfl rfl (fun _ => ?_) (fun _ => ?_) | refine AC_cond rfl (fun _ => ?_) (fun _ => ?_) | refine WE_cmp rfl rfl rfl rfl (fun _ => ?_) (fun _ => ?_))
        all_goals first
          | exact (allZ_not ha hx (hgg.trans ‹_›)).symm
          | (refine ⟨hlt, allZ_step hI ha hx (hgg.trans ‹_›), (less_sub ⟨⟨_, rfl, .inl ⟨.refl _, rfl⟩⟩, ⟨_, rfl, .inl ⟨.refl _, rfl⟩⟩, ⟨_, rfl, .inl ⟨.refl _, rfl⟩⟩, ⟨_, rfl, .inl ⟨.refl _, rfl⟩⟩, ⟨_, rfl, .inl ⟨.refl _, rfl⟩⟩, ⟨_, rfl, see_eq ?_ rfl⟩, trivial⟩ ⟨⟨⟨_, rfl, .refl _⟩, rfl⟩, trivial⟩)⟩; exact congrArg (AV.int .i64) ((wrap_ok (by omega) (by omega)).trans (by omega)))
      · rw [if_pos rfl] at hgg
        by_cases h0 : dd.length = 0
        · rw [if_pos h0] at hgg
          have m1 : ((rsT dd).length : Int) = 0 := by rw [rsT_length]; omega
          have m2 : ¬ 0 < ((rsT dd).length : Int) := by rw [rsT_length]; omega
          repeat' (first | exact absurd m1 ‹_› | exact absurd (by assumption) m2 | refine AC_drawnE (id := 13) tbPosit4238_13 rfl (by kernel_rfl) ?_ | refine AC_drawnE (id := 14) tbPosit4238_14 rfl (by kernel_rfl) ?_ | refine AC_drawnE (id := 15) tbPosit4238_15 rfl (by kernel_rfl) ?_ | refine WE_m rfl (m_idxN (i := j) hty rfl rfl rfl rx rfl) ?_ | refine WE_call 0 rfl hg2 rfl rfl rfl ?_ | refine WE_callB rfl hgd2 rfl (fun _ => ?_) (fun _ => ?_) | refine WE_cons (.inl ⟨rfl, stepE_ok hty rfl rfl⟩) ?_ | refine WE_cons (.inl ⟨rfl, m_idxN hty rfl rfl rfl (by assumption) rfl⟩) ?_ | refine WE_ung rfl rfl ?_ | refine WE_offT rfl rfl rfl ?_ | refine WE_offF rfl rfl rfl ?_ | refine WE_offU rfl rfl rfl ?_ | refine WE_nil ⟨by kernel_rfl, ?_⟩ | refine WL_p hty rfl rfl ?_ | refine WL_nil ?_ | refine AC_seq ?_ | refine AC_region ?_ | refine AC_block ?_ | refine AC_skip ?_ | refine AC_condT rfl ?_ | refine AC_condF rfl ?_ | refine AC_exit ?_ | refine AC_ret ?_ | refine WL_ung rfl rfl ?_ | refine WL_offT rfl rfl rfl ?_ | refine WL_offF rfl rfl rfl ?_ | refine WL_offU rfl rfl rfl ?_ | refine WL_m rfl (m_idxN hty rfl rfl rfl (by assumption) rfl) ?_ | refine ends_bool rfl ?_ | refine WL_cmp rfl rfl rfl rfl (fun _ => ?_) (fun _ => ?_) | refine AC_cond rfl (fun _ => ?_) (fun _ => ?_) | refine WE_cmp rfl rfl rfl rfl (fun _ => ?_) (fun _ => ?_))
          all_goals first
            | exact (allZ_not ha hx (hgg.trans ‹_›)).symm
            | (refine ⟨hlt, allZ_step hI ha hx (hgg.trans ‹_›), (less_sub ⟨⟨_, rfl, .inl ⟨.refl _, rfl⟩⟩, ⟨_, rfl, .inl ⟨.refl _, rfl⟩⟩, ⟨_, rfl, .inl ⟨.refl _, rfl⟩⟩, ⟨_, rfl, .inl ⟨.refl _, rfl⟩⟩, ⟨_, rfl, .inl ⟨.refl _, rfl⟩⟩, ⟨_, rfl, see_eq ?_ rfl⟩, trivial⟩ ⟨⟨⟨_, rfl, .refl _⟩, rfl⟩, trivial⟩)⟩; exact congrArg (AV.int .i64) ((wrap_ok (by omega) (by omega)).trans (by omega)))
        · rw [if_neg h0] at hgg
          have m1 : ¬ ((rsT dd).length : Int) = 0 := by rw [rsT_length]; omega
          have m2 : 0 < ((rsT dd).length : Int) := by rw [rsT_length]; omega
          cases gb2
          all_goals
            repeat' (first | exact absurd (by assumption) m1 | exact absurd m2 ‹_› | refine AC_drawnE (id := 13) tbPosit4238_13 rfl (by kernel_rfl) ?_ | refine AC_drawnE (id := 14) tbPosit4238_14 rfl (by kernel_rfl) ?_ | refine AC_drawnE (id := 15) tbPosit4238_15 rfl (by kernel_rfl) ?_ | refine WE_m rfl (m_idxN (i := j) hty rfl rfl rfl rx rfl) ?_ | refine WE_call 0 rfl hg2 rfl rfl rfl ?_ | refine WE_cons (.inl ⟨rfl, stepE_ok hty rfl rfl⟩) ?_ | refine WE_cons (.inl ⟨rfl, m_idxN hty rfl rfl rfl (by assumption) rfl⟩) ?_ | refine WE_ung rfl rfl ?_ | refine WE_offT rfl rfl rfl ?_ | refine WE_offF rfl rfl rfl ?_ | refine WE_offU rfl rfl rfl ?_ | refine WE_nil ⟨by kernel_rfl, ?_⟩ | refine WL_p hty rfl rfl ?_ | refine WL_nil ?_ | refine AC_seq ?_ | refine AC_region ?_ | refine AC_block ?_ | refine AC_skip ?_ | refine AC_condT rfl ?_ | refine AC_condF rfl ?_ | refine AC_exit ?_ | refine AC_ret ?_ | refine WL_ung rfl rfl ?_ | refine WL_offT rfl rfl rfl ?_ | refine WL_offF rfl rfl rfl ?_ | refine WL_offU rfl rfl rfl ?_ | refine WL_m rfl (m_idxN hty rfl rfl rfl (by assumption) rfl) ?_ | refine ends_bool rfl ?_ | refine WL_cmp rfl rfl rfl rfl (fun _ => ?_) (fun _ => ?_) | refine AC_cond rfl (fun _ => ?_) (fun _ => ?_) | refine WE_cmp rfl rfl rfl rfl (fun _ => ?_) (fun _ => ?_))
            first
              | exact (allZ_not ha hx (hgg.trans rfl)).symm
              | (refine ⟨hlt, allZ_step hI ha hx (hgg.trans rfl), (less_sub ⟨⟨_, rfl, .inl ⟨.refl _, rfl⟩⟩, ⟨_, rfl, .inl ⟨.refl _, rfl⟩⟩, ⟨_, rfl, .inl ⟨.refl _, rfl⟩⟩, ⟨_, rfl, .inl ⟨.refl _, rfl⟩⟩, ⟨_, rfl, .inl ⟨.refl _, rfl⟩⟩, ⟨_, rfl, see_eq ?_ rfl⟩, trivial⟩ ⟨⟨⟨_, rfl, .refl _⟩, rfl⟩, trivial⟩)⟩; exact congrArg (AV.int .i64) ((wrap_ok (by omega) (by omega)).trans (by omega)))
    · obtain rfl : j = co.args.length := by rw [rsA_length] at hc; omega
      repeat' (first | refine WL_p hty rfl rfl ?_ | refine WL_nil ?_ | refine AC_seq ?_ | refine AC_region ?_ | refine AC_block ?_ | refine AC_skip ?_ | refine AC_condT rfl ?_ | refine AC_condF rfl ?_ | refine AC_exit ?_ | refine AC_ret ?_ | refine WL_ung rfl rfl ?_ | refine WL_offT rfl rfl rfl ?_ | refine WL_offF rfl rfl rfl ?_ | refine WL_offU rfl rfl rfl ?_ | refine WL_m rfl (m_idxN hty rfl rfl rfl (by assumption) rfl) ?_ | refine ends_bool rfl ?_ | refine WL_cmp rfl rfl rfl rfl (fun _ => ?_) (fun _ => ?_) | refine AC_cond rfl (fun _ => ?_) (fun _ => ?_))
      exact (allZ_all fun i a x h1 h2 => hI i a x (List.getElem?_eq_some_iff.1 h1).1 h1 h2).symm
  · rw [if_pos rfl]
    obtain ⟨g0, a, ha⟩ := hgt rfl
    have ra := rsA_get ha
    have hdn : domN args gi = a.dom.length := by unfold domN; rw [ha]
    have hal := pall_spec ⟨b, base, args, m⟩ l (cleanT b base args m) (by omega) (fun x hx => clean_spec b base args m x hb hl (by have := size_le_sizes hx; omega) (hi2 x hx).1 hm0 (by have := (hi2 x hx).2; omega))
    rw [hdn]
    refine FC_intro hty Tryz.func238 rfl rfl rfl fun w0 => ?_
    repeat' (first | refine WL_call 0 rfl hsp rfl rfl rfl ?_ | refine WL_call 0 rfl hg rfl rfl rfl ?_ | refine WL_callB rfl hal rfl (fun _ => ?_) (fun _ => ?_) | refine WL_m rfl (m_idxL hty rfl rfl rfl g0 ra rfl) ?_ | refine WL_p hty rfl rfl ?_ | refine WL_nil ?_ | refine AC_seq ?_ | refine AC_region ?_ | refine AC_block ?_ | refine AC_skip ?_ | refine AC_condT rfl ?_ | refine AC_condF rfl ?_ | refine AC_exit ?_ | refine AC_ret ?_ | refine WL_ung rfl rfl ?_ | refine WL_offT rfl rfl rfl ?_ | refine WL_offF rfl rfl rfl ?_ | refine WL_offU rfl rfl rfl ?_ | refine WL_m rfl (m_idxN hty rfl rfl rfl (by assumption) rfl) ?_ | refine ends_bool rfl ?_ | refine WL_cmp rfl rfl rfl rfl (fun _ => ?_) (fun _ => ?_) | refine AC_cond rfl (fun _ => ?_) (fun _ => ?_))
    all_goals (rw [rsT_length, rsT_length] at *)
    · rename_i h1 h2
      rw [h2, decide_eq_true (by omega)]; rfl
    · rename_i h1 h2
      rw [h2, Bool.and_false]
    · rename_i h1
      rw [decide_eq_false (by omega)]; rfl

end Go.Proofs.YtoknnfhgoikpiaaGreat

/-
  Positivity: indices, rows of arguments.
-/
namespace Go.Proofs.YtoknnfhgoikpiaaGreat
set_option linter.unusedSimpArgs false
set_option linter.unusedVariables false
open Go.Aw Go.RowKit
def tbPosit5195_4 : List (Nat × List Nat) := [(0, []), (1, [0]), (2, [0, 1]), (3, [0, 1, 2]), (4, [0, 1, 2]), (5, [0, 1, 2]), (6, [0, 1, 2, 4, 5]), (7, [0, 1, 2, 4, 5, 6]), (8, [0, 1, 2]), (9, [0, 1, 2, 3, 4, 5, 6, 7, 8]), (10, [0, 1, 2, 3, 4, 5, 6, 7, 8, 9]), (11, [0, 1, 2, 3, 4, 5, 6, 7, 8, 9, 10]), (12, [0, 1, 2, 3, 4, 5, 6, 7, 8, 9, 10, 11]), (13, [0, 1, 2, 3, 4, 5, 6, 7, 8, 9, 10, 11, 12]), (14, [0, 1, 2, 3, 4, 5, 6, 7, 8, 9, 10, 11, 12, 13]), (15, [0, 1, 2, 3, 4, 5, 6, 7, 8, 9, 10, 11, 12, 13, 14]), (16, [0, 1, 2, 3, 4, 5, 6, 7, 8, 9, 10, 11, 12, 13, 14, 15]), (17, [0, 1, 2, 3, 4, 5, 6, 7, 8, 9, 10, 11, 12, 13, 14, 15, 16]), (18, [0, 1, 2, 3, 4, 5, 6, 7, 8, 9, 10, 11, 12, 13, 14, 15, 16]), (19, [0, 1, 2, 3, 4, 5, 6, 7, 8, 9, 10, 11, 12, 13, 14, 15, 16]), (20, [0, 1, 2, 3, 4, 5, 6, 7, 8, 9, 10, 11, 12, 13, 14, 15, 16, 18, 19]), (21, [0, 1, 2, 3, 4, 5, 6, 7, 8, 9, 10, 11, 12, 13, 14, 15, 16, 18, 19, 20]), (22, [0, 1, 2, 3, 4, 5, 6, 7, 8, 9, 10, 11, 12, 13, 14, 15, 16, 17, 18, 19, 20, 21]), (23, [0, 1, 2, 3, 4, 5, 6, 7, 8, 9, 10, 11, 12, 13, 14, 15, 16, 17, 18, 19, 20, 21, 22]), (24, [0, 1, 2, 3, 4, 5, 6, 7, 8, 9, 10, 11, 12, 13, 14, 15, 16, 17, 18, 19, 20, 21, 22, 23]), (25, [0, 1, 2, 3, 4, 5, 6, 7, 8, 9, 10, 11, 12, 13, 14, 15, 16, 17, 18, 19, 20, 21, 22, 23, 24])]
def tbPosit5193_4 : List (Nat × List Nat) := [(0, []), (1, []), (2, []), (3, []), (4, [2, 3]), (5, [0, 1, 2, 3, 4]), (6, []), (7, [0, 1, 2, 3, 4, 5, 6])]
def tbPosit5193_11 : List (Nat × List Nat) := [(0, []), (1, []), (2, [0, 1]), (3, []), (4, [0, 1, 2, 3]), (5, [0, 1, 2, 3, 4])]
def tbPosit5193_14 : List (Nat × List Nat) := [(0, []), (1, []), (2, [1]), (3, [1, 2]), (4, [0, 1, 2, 3]), (5, []), (6, [5]), (7, []), (8, [7]), (9, []), (10, [0, 1, 2, 3, 4, 5, 6, 7, 8, 9]), (11, [0, 1, 2, 3, 4, 5, 6, 7, 8, 9, 10])]
attribute [local irreducible] WL AC WD WE MStep OkOp cleanT

def goodT (b : Bl) (base : Int) (args : List Ar) (m c : Int) (t : Tm) : Bool := goodF b base args m c 1048576 t
theorem good_spec (b : Bl) (base : Int) (args : List Ar) (m c : Int) (t : Tm) (hb : b.size ≤ 1048576) (hl : args.length ≤ 1048576) (hs : t.size ≤ 1048576) (hfm : formedT t = true) (h0 : 0 ≤ m) (hm : m + t.depth ≤ 8388608) :
    FC Tryz.prog 238 [aP ⟨b, base, args, m⟩, aT t, .int .i64 c] (.bool (goodT b base args m c t)) := good_all b base args m c hb hl h0 1048576 (Nat.le_refl _) t hs hfm hm
attribute [local irreducible] goodT

theorem checkT_right {t : Tm} (h : checkT t = 0) : t.size ≤ 6000 ∧ t.depth ≤ 200 ∧ formedT t = true := by
  unfold checkT at h
  split at h
  · omega
  · split at h
    · omega
    · split at h
      · exact ⟨by omega, by omega, by assumption⟩
      · omega
theorem openT_ok {t : Tm} {v : Int} (h : openT t v = true) : t.size ≤ 6000 ∧ t.depth ≤ 200 ∧ formedT t = true := by
  unfold openT scopeT at h
  simp only [Bool.and_eq_true, decide_eq_true_eq] at h
  exact checkT_right h.2.2.1

def idxsOf (b : Bl) (s : Int) : List Ar := match b.sorts[s.toNat]? with
  | some x => x.idx
  | none => []
theorem idxsOf_len (b : Bl) (s : Int) : (idxsOf b s).length = idxN b s := by unfold idxsOf idxN; cases b.sorts[s.toNat]? <;> rfl
def idxP (b : Bl) (base : Int) (args : List Ar) (m c sort : Int) (l : List Tm) : Bool := allZ (fun a x => if a.rc = true then goodT b base args m c x else cleanT b base args m x) (idxsOf b sort) l

set_option maxRecDepth 4000 in
set_option maxHeartbeats 4000000 in
theorem indices_spec (b : Bl) (base : Int) (args : List Ar) (m c sort : Int) (l : List Tm) (hb : b.size ≤ 1048576) (hl : args.length ≤ 1048576) (hm : 0 ≤ m ∧ m ≤ 4194304) (hso : 0 ≤ sort ∧ sort.toNat < b.sorts.length) (hlen : l.length = idxN b sort)
    (ho : ∀ x, x ∈ l → x.size ≤ 6000 ∧ x.depth ≤ 200 ∧ formedT x = true) : FC Tryz.prog 195 [aP ⟨b, base, args, m⟩, .int .i64 sort, sT l, .int .i64 c] (.bool (idxP b base args m c sort l)) := by
  obtain ⟨s, hs, hsm⟩ := get_of_lt hso.2
  have rs := rsS_get hs
  have hio : idxsOf b sort = s.idx := by unfold idxsOf; rw [hs]
  have hin : idxN b sort = s.idx.length := by unfold idxN; rw [hs]
  rw [hin] at hlen
  have hsl : s.idx.length ≤ 1048576 := by
    have h0 := size_le_sizesS hsm
    have h1 := len_le_sizesA s.idx
    have h2 : s.size = sizesA s.idx + s.decT.size := rfl
    have h3 : b.size = sizesS b.sorts + sizesC b.cons := rfl
    omega
  unfold idxP
  rw [hio]
  refine FC_intro hty Tryz.func195 rfl rfl rfl fun w0 => ?_
  repeat' (first | refine WL_m rfl (m_idxL hty rfl rfl rfl hso.1 rs rfl) ?_ | refine WL_p hty rfl rfl ?_ | refine WL_nil ?_ | refine AC_seq ?_ | refine AC_region ?_ | refine AC_block ?_ | refine AC_skip ?_ | refine AC_condT rfl ?_ | refine AC_condF rfl ?_ | refine AC_exit ?_ | refine AC_ret ?_ | refine WL_m rfl (m_idxN hty rfl rfl rfl (by assumption) rfl) ?_ | refine ends_bool rfl ?_ | refine WL_cmp rfl rfl rfl rfl (fun _ => ?_) (fun _ => ?_) | refine AC_cond rfl (fun _ => ?_) (fun _ => ?_))
  refine AC_for s.idx.length (fun j => ∀ (i : Nat) (a : Ar) (x : Tm), i < j → s.idx[i]? = some a → l[i]? = some x → (fun (a : Ar) x => if a.rc = true then goodT b base args m c x else cleanT b base args m x) a x = true)
    (fun j => ⟨envOf [(2, sT l), (3, .int .i64 c), (4, .ptr 4 0), (17, sA s.idx), (18, .int .i64 ((rsA s.idx).length : Nat)), (19, .int .i64 (j : Nat))], bkOf [(4, .box (cP ⟨b, base, args, m⟩))]⟩)
    (less_sub ⟨⟨_, rfl, .inl ⟨.refl _, rfl⟩⟩, ⟨_, rfl, .inl ⟨.refl _, rfl⟩⟩, ⟨_, rfl, .inl ⟨.refl _, rfl⟩⟩, ⟨_, rfl, .inl ⟨.refl _, rfl⟩⟩, ⟨_, rfl, .inl ⟨.refl _, rfl⟩⟩, ⟨_, rfl, .inl ⟨.refl _, rfl⟩⟩, trivial⟩ ⟨⟨⟨_, rfl, .refl _⟩, rfl⟩, trivial⟩) (fun i a x hi => absurd hi (Nat.not_lt_zero _)) ?_
  intro j hj hI
  repeat' (first | refine WL_p hty rfl rfl ?_ | refine WL_nil ?_ | refine AC_seq ?_ | refine AC_region ?_ | refine AC_block ?_ | refine AC_skip ?_ | refine AC_condT rfl ?_ | refine AC_condF rfl ?_ | refine AC_exit ?_ | refine AC_ret ?_ | refine WL_m rfl (m_idxN hty rfl rfl rfl (by assumption) rfl) ?_ | refine ends_bool rfl ?_)
  refine WL_cmp rfl rfl rfl rfl (fun hc => ?_) (fun hc => ?_)
  · have hlt : j < s.idx.length := by rw [rsA_length] at hc; omega
    obtain ⟨a, ha, _⟩ := get_of_lt hlt
    obtain ⟨x, hx, hxm⟩ := get_of_lt (hlen ▸ hlt)
    have ra := rsA_get ha
    have rx := rsT_get hx
    obtain ⟨o1, o2, o3⟩ := ho x hxm
    have hcl := clean_spec b base args m x hb hl (by omega) o3 hm.1 (by omega)
    have hgd := good_spec b base args m c x hb hl (by omega) o3 hm.1 (by omega)
    obtain ⟨rc, tt, dd, so, ix⟩ := a
    cases rc
    · repeat' (first | refine AC_drawnE (id := 4) tbPosit5195_4 rfl (by kernel_rfl) ?_ | refine WE_m rfl (m_idxN (i := j) hty rfl rfl rfl rx rfl) ?_ | refine WE_callB rfl hcl rfl (fun _ => ?_) (fun _ => ?_) | refine WE_cons (.inl ⟨rfl, stepE_ok hty rfl rfl⟩) ?_ | refine WE_cons (.inl ⟨rfl, m_idxN hty rfl rfl rfl (by assumption) rfl⟩) ?_ | refine WE_ung rfl rfl ?_ | refine WE_offT rfl rfl rfl ?_ | refine WE_offF rfl rfl rfl ?_ | refine WE_offU rfl rfl rfl ?_ | refine WE_nil ⟨by kernel_rfl, ?_⟩ | refine WL_p hty rfl rfl ?_ | refine WL_nil ?_ | refine AC_seq ?_ | refine AC_region ?_ | refine AC_block ?_ | refine AC_skip ?_ | refine AC_condT rfl ?_ | refine AC_condF rfl ?_ | refine AC_exit ?_ | refine AC_ret ?_ | refine WL_m rfl (m_idxN hty rfl rfl rfl (by assumption) rfl) ?_ | refine ends_bool rfl ?_ | refine WL_cmp rfl rfl rfl rfl (fun _ => ?_) (fun _ => ?_) | refine AC_cond rfl (fun _ => ?_) (fun _ => ?_))
      · refine ⟨hlt, allZ_step hI ha hx ‹_›, (less_sub ⟨⟨_, rfl, .inl ⟨.refl _, rfl⟩⟩, ⟨_, rfl, .inl ⟨.refl _, rfl⟩⟩, ⟨_, rfl, .inl ⟨.refl _, rfl⟩⟩, ⟨_, rfl, .inl ⟨.refl _, rfl⟩⟩, ⟨_, rfl, .inl ⟨.refl _, rfl⟩⟩, ⟨_, rfl, see_eq ?_ rfl⟩, trivial⟩ ⟨⟨⟨_, rfl, .refl _⟩, rfl⟩, trivial⟩)⟩
        exact congrArg (AV.int .i64) ((wrap_ok (by omega) (by omega)).trans (by omega))
      · exact (allZ_not ha hx (by show cleanT b base args m x = false; assumption)).symm
    · repeat' (first | refine AC_drawnE (id := 4) tbPosit5195_4 rfl (by kernel_rfl) ?_ | refine WE_m rfl (m_idxN (i := j) hty rfl rfl rfl rx rfl) ?_ | refine WE_callB rfl hgd rfl (fun _ => ?_) (fun _ => ?_) | refine WE_cons (.inl ⟨rfl, stepE_ok hty rfl rfl⟩) ?_ | refine WE_cons (.inl ⟨rfl, m_idxN hty rfl rfl rfl (by assumption) rfl⟩) ?_ | refine WE_ung rfl rfl ?_ | refine WE_offT rfl rfl rfl ?_ | refine WE_offF rfl rfl rfl ?_ | refine WE_offU rfl rfl rfl ?_ | refine WE_nil ⟨by kernel_rfl, ?_⟩ | refine WL_p hty rfl rfl ?_ | refine WL_nil ?_ | refine AC_seq ?_ | refine AC_region ?_ | refine AC_block ?_ | refine AC_skip ?_ | refine AC_condT rfl ?_ | refine AC_condF rfl ?_ | refine AC_exit ?_ | refine AC_ret ?_ | refine WL_m rfl (m_idxN hty rfl rfl rfl (by assumption) rfl) ?_ | refine ends_bool rfl ?_ | refine WL_cmp rfl rfl rfl rfl (fun _ => ?_) (fun _ => ?_) | refine AC_cond rfl (fun _ => ?_) (fun _ => ?_))
      · refine ⟨hlt, allZ_step hI ha hx ‹_›, (less_sub ⟨⟨_, rfl, .inl ⟨.refl _, rfl⟩⟩, ⟨_, rfl, .inl ⟨.refl _, rfl⟩⟩, ⟨_, rfl, .inl ⟨.refl _, rfl⟩⟩, ⟨_, rfl, .inl ⟨.refl _, rfl⟩⟩, ⟨_, rfl, .inl ⟨.refl _, rfl⟩⟩, ⟨_, rfl, see_eq ?_ rfl⟩, trivial⟩ ⟨⟨⟨_, rfl, .refl _⟩, rfl⟩, trivial⟩)⟩
        exact congrArg (AV.int .i64) ((wrap_ok (by omega) (by omega)).trans (by omega))
      · exact (allZ_not ha hx (by show goodT b base args m c x = false; assumption)).symm
  · obtain rfl : j = s.idx.length := by rw [rsA_length] at hc; omega
    repeat' (first | refine WL_p hty rfl rfl ?_ | refine WL_nil ?_ | refine AC_seq ?_ | refine AC_region ?_ | refine AC_block ?_ | refine AC_skip ?_ | refine AC_condT rfl ?_ | refine AC_condF rfl ?_ | refine AC_exit ?_ | refine AC_ret ?_ | refine WL_m rfl (m_idxN hty rfl rfl rfl (by assumption) rfl) ?_ | refine ends_bool rfl ?_ | refine WL_cmp rfl rfl rfl rfl (fun _ => ?_) (fun _ => ?_) | refine AC_cond rfl (fun _ => ?_) (fun _ => ?_))
    exact (allZ_all fun i a x h1 h2 => hI i a x (List.getElem?_eq_some_iff.1 h1).1 h1 h2).symm

def domsP (b : Bl) (base : Int) (args : List Ar) : Int → List Tm → Bool
  | _, [] => true
  | i, d :: l => cleanT b base args i d && domsP b base args (i + 1) l
theorem domsP_append (b : Bl) (base : Int) (args : List Ar) (r : List Tm) : ∀ (l : List Tm) (i : Int), domsP b base args i (l ++ r) = (domsP b base args i l && domsP b base args (i + l.length) r)
  | [], i => by simp [domsP]
  | t :: l, i => by
    simp only [List.cons_append, domsP, domsP_append b base args r l, List.length_cons, Bool.and_assoc]
    rw [show i + 1 + (l.length : Int) = i + ((l.length + 1 : Nat) : Int) by omega]
theorem domsP_split (b : Bl) (base : Int) (args : List Ar) {l : List Tm} {j : Nat} {x : Tm} (h : l[j]? = some x) : domsP b base args 0 l = (domsP b base args 0 (l.take j) && (cleanT b base args (j : Nat) x && domsP b base args ((j : Nat) + 1) (l.drop (j + 1)))) := by
  have hlt : j < l.length := (List.getElem?_eq_some_iff.1 h).1
  conv => lhs; rw [← List.take_append_drop j l, domsP_append, List.drop_eq_getElem_cons hlt, domsP]
  have h1 : (l.take j).length = j := by rw [List.length_take]; omega
  have h2 : l[j] = x := by rw [List.getElem?_eq_getElem hlt] at h; exact Option.some.inj h
  rw [h1, h2, Int.zero_add]
theorem domsP_next (b : Bl) (base : Int) (args : List Ar) {l : List Tm} {j : Nat} {x : Tm} (h : l[j]? = some x) : domsP b base args 0 (l.take (j + 1)) = (domsP b base args 0 (l.take j) && cleanT b base args (j : Nat) x) := by
  have hlt : j < l.length := (List.getElem?_eq_some_iff.1 h).1
  have h1 : (l.take j).length = j := by rw [List.length_take]; omega
  rw [List.take_add_one, h, Option.toList_some, domsP_append, h1, Int.zero_add]
  simp [domsP]
def argP (b : Bl) (base : Int) (args : List Ar) (c : Int) (a : Ar) : Bool := if a.rc = true then domsP b base args 0 a.dom && idxP b base args a.dom.length c a.sort a.idx else cleanT b base args 0 a.typ
/-- Each argument is as it is to be, behind those ahead. -/
def rowP (b : Bl) (base c : Int) (l : List Ar) : Bool := (List.range l.length).all fun i => match l[i]? with
  | some a => argP b base (l.take i) c a
  | none => true
theorem rowP_iff {b : Bl} {base c : Int} {l : List Ar} : rowP b base c l = true ↔ ∀ (i : Nat) (a : Ar), l[i]? = some a → argP b base (l.take i) c a = true := by
  unfold rowP
  rw [List.all_eq_true]
  constructor
  · intro h i a ha
    have := h i (List.mem_range.2 (List.getElem?_eq_some_iff.1 ha).1)
    rwa [ha] at this
  · intro h i hi
    obtain ⟨a, ha, _⟩ := get_of_lt (List.mem_range.1 hi)
    rw [ha]; exact h i a ha


theorem argSeq_get {b : Bl} {l : List Ar} {i : Nat} {a : Ar} (h : argSeq b 0 l = true) (ha : l[i]? = some a) : argB b a (i : Nat) = true := by
  rw [argSeq_split ha, Int.zero_add] at h
  simp only [Bool.and_eq_true] at h
  exact h.2.1
theorem openSeq_get {l : List Tm} {i : Nat} {t : Tm} {v : Int} (h : openSeq v l = true) (ha : l[i]? = some t) : openT t (v + (i : Nat)) = true := by
  rw [openSeq_split ha] at h
  simp only [Bool.and_eq_true] at h
  exact h.2.1

set_option maxRecDepth 4000 in
set_option maxHeartbeats 8000000 in
theorem prow_spec (b : Bl) (base c : Int) (l : List Ar) (hb : b.size ≤ 1048576) (hl : sizesA l ≤ 1048576) (hseq : argSeq b 0 l = true) : FC Tryz.prog 193 [aB b, .int .i64 base, sA l, .int .i64 c] (.bool (rowP b base c l)) := by
  have hlen := len_le_sizesA l
  refine FC_intro hty Tryz.func193 rfl rfl rfl fun w0 => ?_
  repeat' (first | refine WL_p hty rfl rfl ?_ | refine WL_nil ?_ | refine AC_seq ?_ | refine AC_region ?_ | refine AC_block ?_ | refine AC_skip ?_ | refine AC_condT rfl ?_ | refine AC_condF rfl ?_ | refine AC_exit ?_ | refine AC_ret ?_ | refine WL_m rfl (m_idxN hty rfl rfl rfl (by assumption) rfl) ?_ | refine ends_bool rfl ?_ | refine WL_cmp rfl rfl rfl rfl (fun _ => ?_) (fun _ => ?_) | refine AC_cond rfl (fun _ => ?_) (fun _ => ?_))
  refine AC_for l.length (fun j => ∀ (i : Nat) (a : Ar), i < j → l[i]? = some a → argP b base (l.take i) c a = true)
    (fun j => ⟨envOf [(1, .int .i64 base), (2, sA l), (3, .int .i64 c), (4, .ptr 4 0), (14, sA l), (15, .int .i64 ((rsA l).length : Nat)), (16, .int .i64 (j : Nat))], bkOf [(4, .box (cB b))]⟩)
    (less_sub ⟨⟨_, rfl, .inl ⟨.refl _, rfl⟩⟩, ⟨_, rfl, .inl ⟨.refl _, rfl⟩⟩, ⟨_, rfl, .inl ⟨.refl _, rfl⟩⟩, ⟨_, rfl, .inl ⟨.refl _, rfl⟩⟩, ⟨_, rfl, .inl ⟨.refl _, rfl⟩⟩, ⟨_, rfl, .inl ⟨.refl _, rfl⟩⟩, ⟨_, rfl, .inl ⟨.refl _, rfl⟩⟩, trivial⟩ ⟨⟨⟨_, rfl, .refl _⟩, rfl⟩, trivial⟩) (fun i a hi => absurd hi (Nat.not_lt_zero _)) ?_
  intro j hj hI
  repeat' (first | refine WL_p hty rfl rfl ?_ | refine WL_nil ?_ | refine AC_seq ?_ | refine AC_region ?_ | refine AC_block ?_ | refine AC_skip ?_ | refine AC_condT rfl ?_ | refine AC_condF rfl ?_ | refine AC_exit ?_ | refine AC_ret ?_ | refine WL_m rfl (m_idxN hty rfl rfl rfl (by assumption) rfl) ?_ | refine ends_bool rfl ?_)
  refine WL_cmp rfl rfl rfl rfl (fun hc => ?_) (fun hc => ?_)
  · have hlt : j < l.length := by rw [rsA_length] at hc; omega
    obtain ⟨a, ha, ham⟩ := get_of_lt hlt
    have ra := rsA_get ha
    have hag := argSeq_get hseq ha
    have has := size_le_sizesA ham
    unfold Ar.size at has
    have hnext : argP b base (l.take j) c a = true → ∀ (i : Nat) (a : Ar), i < j + 1 → l[i]? = some a → argP b base (l.take i) c a = true := fun hp i u hi hu => by
      rcases Nat.lt_or_ge i j with q | q
      · exact hI i u q hu
      · obtain rfl : i = j := by omega
        rw [ha] at hu
        obtain rfl := Option.some.inj hu
        exact hp
    have hbad : argP b base (l.take j) c a = false → rowP b base c l = false := fun hp => Bool.eq_false_iff.2 fun q => by rw [rowP_iff.1 q j a ha] at hp; cases hp
    have htl : (l.take j).length ≤ 1048576 := by rw [List.length_take]; omega
    have hrt : rsA (l.take j) = ((rsA l).take j).drop 0 := by rw [List.drop_zero, rsA_map, rsA_map, List.map_take]
    have hpe : ∀ m : Int, aP ⟨b, base, l.take j, m⟩ = .agg [.lst 6 (rsS b.sorts) false, .lst 6 (rsC b.cons) false, .int .i64 b.elim, .int .i64 base, .lst 7 (((rsA l).take j).drop 0) false, .int .i64 m] := fun m => by rw [← hrt]
    obtain ⟨rc, tt, dd, so, ix⟩ := a
    simp only at has
    cases rc
    · have hpa : argP b base (l.take j) c ⟨false, tt, dd, so, ix⟩ = cleanT b base (l.take j) 0 tt := rfl
      have hop : openT tt (j : Nat) = true := by
        have : argB b ⟨false, tt, dd, so, ix⟩ (j : Nat) = (openT tt (j : Nat) && (decide ((dd.length : Int) + ix.length = 0) && decide (so = 0))) := rfl
        rw [this] at hag
        simp only [Bool.and_eq_true] at hag
        exact hag.1
      obtain ⟨o1, o2, o3⟩ := openT_ok hop
      have hcl := clean_spec b base (l.take j) 0 tt hb htl (by omega) o3 (by omega) (by omega)
      rw [hpe] at hcl
      repeat' (first | refine AC_drawnE (id := 4) tbPosit5193_4 rfl (by kernel_rfl) ?_ | refine WE_cons (.inl ⟨rfl, m_sliceL hty 0 j rfl rfl rfl ⟨_, _, rfl, rfl⟩ (Nat.zero_le _) (by rw [rsA_length]; omega) rfl⟩) ?_ | refine WL_callB rfl hcl rfl (fun _ => ?_) (fun _ => ?_) | refine WE_cons (.inl ⟨rfl, stepE_ok hty rfl rfl⟩) ?_ | refine WE_nil ⟨by kernel_rfl, ?_⟩ | refine WL_p hty rfl rfl ?_ | refine WL_nil ?_ | refine AC_seq ?_ | refine AC_region ?_ | refine AC_block ?_ | refine AC_skip ?_ | refine AC_condT rfl ?_ | refine AC_condF rfl ?_ | refine AC_exit ?_ | refine AC_ret ?_ | refine WL_m rfl (m_idxN hty rfl rfl rfl (by assumption) rfl) ?_ | refine ends_bool rfl ?_ | refine WL_cmp rfl rfl rfl rfl (fun _ => ?_) (fun _ => ?_) | refine AC_cond rfl (fun _ => ?_) (fun _ => ?_))
      · rename_i hq
        refine ⟨hlt, hnext (hpa.trans hq), (less_sub ⟨⟨_, rfl, .inl ⟨.refl _, rfl⟩⟩, ⟨_, rfl, .inl ⟨.refl _, rfl⟩⟩, ⟨_, rfl, .inl ⟨.refl _, rfl⟩⟩, ⟨_, rfl, .inl ⟨.refl _, rfl⟩⟩, ⟨_, rfl, .inl ⟨.refl _, rfl⟩⟩, ⟨_, rfl, .inl ⟨.refl _, rfl⟩⟩, ⟨_, rfl, see_eq ?_ rfl⟩, trivial⟩ ⟨⟨⟨_, rfl, .refl _⟩, rfl⟩, trivial⟩)⟩
        exact congrArg (AV.int .i64) ((wrap_ok (by omega) (by omega)).trans (by omega))
      · exact (hbad (hpa.trans ‹_›)).symm
    · have hpa : argP b base (l.take j) c ⟨true, tt, dd, so, ix⟩ = (domsP b base (l.take j) 0 dd && idxP b base (l.take j) dd.length c so ix) := rfl
      have hae : argB b ⟨true, tt, dd, so, ix⟩ (j : Nat) = ((decide (tt = zT) && (decide (dd.length ≤ 12) && (inR so 0 ((b.sorts.length : Int) - 1) && decide (ix.length = idxN b so)))) && (openSeq (j : Nat) dd && ix.all fun t => openT t ((j : Nat) + dd.length))) := rfl
      rw [hae] at hag
      simp only [Bool.and_eq_true, decide_eq_true_eq, inR] at hag
      obtain ⟨⟨_, a2, ⟨a3, a4⟩, a5⟩, a6, a7⟩ := hag
      have hld := len_le_sizes dd
      repeat' (first | refine AC_drawnE (id := 4) tbPosit5193_4 rfl (by kernel_rfl) ?_ | refine WE_cons (.inl ⟨rfl, m_sliceL hty 0 j rfl rfl rfl ⟨_, _, rfl, rfl⟩ (Nat.zero_le _) (by rw [rsA_length]; omega) rfl⟩) ?_ | refine WE_cons (.inl ⟨rfl, stepE_ok hty rfl rfl⟩) ?_ | refine WE_nil ⟨by kernel_rfl, ?_⟩ | refine WL_p hty rfl rfl ?_ | refine WL_nil ?_ | refine AC_seq ?_ | refine AC_region ?_ | refine AC_block ?_ | refine AC_skip ?_ | refine AC_condT rfl ?_ | refine AC_condF rfl ?_ | refine AC_exit ?_ | refine AC_ret ?_ | refine WL_m rfl (m_idxN hty rfl rfl rfl (by assumption) rfl) ?_ | refine ends_bool rfl ?_ | refine WL_cmp rfl rfl rfl rfl (fun _ => ?_) (fun _ => ?_) | refine AC_cond rfl (fun _ => ?_) (fun _ => ?_))
      refine AC_for dd.length (fun k => domsP b base (l.take j) 0 (dd.take k) = true)
        (fun k => ⟨envOf [(1, .int .i64 base), (2, sA l), (3, .int .i64 c), (4, .ptr 4 0), (10, .ptr 10 0), (11, .ptr 11 0), (14, sA l), (15, .int .i64 ((rsA l).length : Nat)), (16, .int .i64 (j : Nat)), (36, sT dd), (37, .int .i64 ((rsT dd).length : Nat)), (38, .int .i64 (k : Nat))],
          bkOf [(4, .box (cB b)), (10, .box (cA ⟨true, tt, dd, so, ix⟩)), (11, .box [.lst 6 (rsS b.sorts) false, .lst 6 (rsC b.cons) false, .int .i64 b.elim, .int .i64 base, .lst 7 (((rsA l).take j).drop 0) false, .int .i64 0])]⟩)
        (less_sub ⟨⟨_, rfl, .inl ⟨.refl _, rfl⟩⟩, ⟨_, rfl, .inl ⟨.refl _, rfl⟩⟩, ⟨_, rfl, .inl ⟨.refl _, rfl⟩⟩, ⟨_, rfl, .inl ⟨.refl _, rfl⟩⟩, ⟨_, rfl, .inl ⟨.refl _, rfl⟩⟩, ⟨_, rfl, .inl ⟨.refl _, rfl⟩⟩, ⟨_, rfl, .inl ⟨.refl _, rfl⟩⟩, ⟨_, rfl, .inl ⟨.refl _, rfl⟩⟩, ⟨_, rfl, .inl ⟨.refl _, rfl⟩⟩, ⟨_, rfl, .inl ⟨.refl _, rfl⟩⟩, ⟨_, rfl, .inl ⟨.refl _, rfl⟩⟩, ⟨_, rfl, .inl ⟨.refl _, rfl⟩⟩, trivial⟩ ⟨⟨⟨_, rfl, .refl _⟩, rfl⟩, ⟨⟨_, rfl, .refl _⟩, rfl⟩, ⟨⟨_, rfl, .refl _⟩, rfl⟩, trivial⟩) rfl ?_
      intro k hk hJ
      repeat' (first | refine WL_p hty rfl rfl ?_ | refine WL_nil ?_ | refine AC_seq ?_ | refine AC_region ?_ | refine AC_block ?_ | refine AC_skip ?_ | refine AC_condT rfl ?_ | refine AC_condF rfl ?_ | refine AC_exit ?_ | refine AC_ret ?_ | refine WL_m rfl (m_idxN hty rfl rfl rfl (by assumption) rfl) ?_ | refine ends_bool rfl ?_)
      refine WL_cmp rfl rfl rfl rfl (fun hc2 => ?_) (fun hc2 => ?_)
      · have hc2 : (k : Int) < ((rsT dd).length : Int) := hc2
        have hkl : k < dd.length := by rw [rsT_length] at hc2; omega
        obtain ⟨d, hd, hdm⟩ := get_of_lt hkl
        have rd := rsT_get hd
        obtain ⟨o1, o2, o3⟩ := openT_ok (openSeq_get a6 hd)
        have hcl := clean_spec b base (l.take j) (k : Nat) d hb htl (by omega) o3 (Int.natCast_nonneg _) (by omega)
        have hin := pin_spec ⟨b, base, l.take j, 0⟩ (k : Nat) ⟨by show -4194304 ≤ 0 + (k : Int); omega, by show 0 + (k : Int) ≤ 8388608; omega⟩
        rw [show (⟨b, base, l.take j, 0⟩ : Pl).inn (k : Nat) = ⟨b, base, l.take j, (k : Nat)⟩ by simp [Pl.inn], hpe 0] at hin
        repeat' (first | refine AC_drawnE (id := 11) tbPosit5193_11 rfl (by kernel_rfl) ?_ | refine WE_call 0 rfl hin rfl rfl rfl ?_ | refine WE_callB rfl hcl rfl (fun _ => ?_) (fun _ => ?_) | refine WE_cons (.inl ⟨rfl, stepE_ok hty rfl rfl⟩) ?_ | refine WE_nil ⟨by kernel_rfl, ?_⟩ | refine WL_p hty rfl rfl ?_ | refine WL_nil ?_ | refine AC_seq ?_ | refine AC_region ?_ | refine AC_block ?_ | refine AC_skip ?_ | refine AC_condT rfl ?_ | refine AC_condF rfl ?_ | refine AC_exit ?_ | refine AC_ret ?_ | refine WL_m rfl (m_idxN hty rfl rfl rfl (by assumption) rfl) ?_ | refine ends_bool rfl ?_ | refine WL_cmp rfl rfl rfl rfl (fun _ => ?_) (fun _ => ?_) | refine AC_cond rfl (fun _ => ?_) (fun _ => ?_))
        all_goals rename_i hq
        · refine ⟨hkl, by rw [domsP_next _ _ _ hd, hJ, hq]; rfl, (less_sub ⟨⟨_, rfl, .inl ⟨.refl _, rfl⟩⟩, ⟨_, rfl, .inl ⟨.refl _, rfl⟩⟩, ⟨_, rfl, .inl ⟨.refl _, rfl⟩⟩, ⟨_, rfl, .inl ⟨.refl _, rfl⟩⟩, ⟨_, rfl, .inl ⟨.refl _, rfl⟩⟩, ⟨_, rfl, .inl ⟨.refl _, rfl⟩⟩, ⟨_, rfl, .inl ⟨.refl _, rfl⟩⟩, ⟨_, rfl, .inl ⟨.refl _, rfl⟩⟩, ⟨_, rfl, .inl ⟨.refl _, rfl⟩⟩, ⟨_, rfl, .inl ⟨.refl _, rfl⟩⟩, ⟨_, rfl, .inl ⟨.refl _, rfl⟩⟩, ⟨_, rfl, see_eq ?_ rfl⟩, trivial⟩ ⟨⟨⟨_, rfl, .refl _⟩, rfl⟩, ⟨⟨_, rfl, .refl _⟩, rfl⟩, ⟨⟨_, rfl, .refl _⟩, rfl⟩, trivial⟩)⟩
          exact congrArg (AV.int .i64) ((wrap_ok (by omega) (by omega)).trans (by omega))
        · exact (hbad (by rw [hpa, domsP_split _ _ _ hd, hq]; simp)).symm
      · have hc2 : ¬ (k : Int) < ((rsT dd).length : Int) := hc2
        obtain rfl : k = dd.length := by rw [rsT_length] at hc2; omega
        rw [List.take_length] at hJ
        have hin := pin_spec ⟨b, base, l.take j, 0⟩ ((rsT dd).length : Nat) ⟨by show -4194304 ≤ 0 + ((rsT dd).length : Int); omega, by show 0 + ((rsT dd).length : Int) ≤ 8388608; rw [rsT_length]; omega⟩
        rw [show (⟨b, base, l.take j, 0⟩ : Pl).inn ((rsT dd).length : Nat) = ⟨b, base, l.take j, (dd.length : Nat)⟩ by simp [Pl.inn, rsT_length], hpe 0] at hin
        have hix := indices_spec b base (l.take j) (dd.length : Nat) c so ix hb htl ⟨Int.natCast_nonneg _, by omega⟩ ⟨a3, by omega⟩ a5 (fun x hx => openT_ok (List.all_eq_true.1 a7 x hx))
        repeat' (first | refine AC_drawnE (id := 14) tbPosit5193_14 rfl (by kernel_rfl) ?_ | refine WE_call 0 rfl hin rfl rfl rfl ?_ | refine WE_callB rfl hix rfl (fun _ => ?_) (fun _ => ?_) | refine WE_cons (.inl ⟨rfl, stepE_ok hty rfl rfl⟩) ?_ | refine WE_nil ⟨by kernel_rfl, ?_⟩ | refine WL_p hty rfl rfl ?_ | refine WL_nil ?_ | refine AC_seq ?_ | refine AC_region ?_ | refine AC_block ?_ | refine AC_skip ?_ | refine AC_condT rfl ?_ | refine AC_condF rfl ?_ | refine AC_exit ?_ | refine AC_ret ?_ | refine WL_m rfl (m_idxN hty rfl rfl rfl (by assumption) rfl) ?_ | refine ends_bool rfl ?_ | refine WL_cmp rfl rfl rfl rfl (fun _ => ?_) (fun _ => ?_) | refine AC_cond rfl (fun _ => ?_) (fun _ => ?_))
        all_goals rename_i hq
        · refine ⟨hlt, hnext (by rw [hpa, hJ, hq]; rfl), (less_sub ⟨⟨_, rfl, .inl ⟨.refl _, rfl⟩⟩, ⟨_, rfl, .inl ⟨.refl _, rfl⟩⟩, ⟨_, rfl, .inl ⟨.refl _, rfl⟩⟩, ⟨_, rfl, .inl ⟨.refl _, rfl⟩⟩, ⟨_, rfl, .inl ⟨.refl _, rfl⟩⟩, ⟨_, rfl, .inl ⟨.refl _, rfl⟩⟩, ⟨_, rfl, see_eq ?_ rfl⟩, trivial⟩ ⟨⟨⟨_, rfl, .refl _⟩, rfl⟩, trivial⟩)⟩
          exact congrArg (AV.int .i64) ((wrap_ok (by omega) (by omega)).trans (by omega))
        · exact (hbad (by rw [hpa, hJ, hq]; rfl)).symm
  · obtain rfl : j = l.length := by rw [rsA_length] at hc; omega
    repeat' (first | refine WL_p hty rfl rfl ?_ | refine WL_nil ?_ | refine AC_seq ?_ | refine AC_region ?_ | refine AC_block ?_ | refine AC_skip ?_ | refine AC_condT rfl ?_ | refine AC_condF rfl ?_ | refine AC_exit ?_ | refine AC_ret ?_ | refine WL_m rfl (m_idxN hty rfl rfl rfl (by assumption) rfl) ?_ | refine ends_bool rfl ?_ | refine WL_cmp rfl rfl rfl rfl (fun _ => ?_) (fun _ => ?_) | refine AC_cond rfl (fun _ => ?_) (fun _ => ?_))
    exact (rowP_iff.2 fun i a ha => hI i a (List.getElem?_eq_some_iff.1 ha).1 ha).symm

end Go.Proofs.YtoknnfhgoikpiaaGreat

/-
  Positivity of a block.
-/
namespace Go.Proofs.YtoknnfhgoikpiaaGreat
set_option linter.unusedSimpArgs false
set_option linter.unusedVariables false
open Go.Aw Go.RowKit
attribute [local irreducible] WL AC WD WE MStep OkOp cleanT goodT

def sortP (b : Bl) (base : Int) (s : Sr) : Bool := rowP b base 0 s.idx && (!s.dec || cleanT b base s.idx 0 s.decT)
def conP (b : Bl) (base c : Int) (x : Cn) : Bool := rowP b base c x.args && (idxP b base x.args 0 c x.sort x.idx && (!(decS b x.sort) || cleanT b base x.args 0 x.dec))
def consP (b : Bl) (base : Int) : Bool := (List.range b.cons.length).all fun i => match b.cons[i]? with
  | some x => conP b base (i : Nat) x
  | none => true
theorem consP_iff {b : Bl} {base : Int} : consP b base = true ↔ ∀ (i : Nat) (x : Cn), b.cons[i]? = some x → conP b base (i : Nat) x = true := by
  unfold consP
  rw [List.all_eq_true]
  constructor
  · intro h i a ha
    have := h i (List.mem_range.2 (List.getElem?_eq_some_iff.1 ha).1)
    rwa [ha] at this
  · intro h i hi
    obtain ⟨a, ha, _⟩ := get_of_lt (List.mem_range.1 hi)
    rw [ha]; exact h i a ha
/-- Whether a block is positive, or why not. -/
def positI (b : Bl) (base : Int) : Int := if shapeB b = true then (if base < 0 then 1 else if 65535 < base then 1 else if (b.sorts.all (sortP b base) && consP b base) = true then 0 else 11) else 12

theorem shapeB_sorts {b : Bl} (h : shapeB b = true) {k : Nat} {s : Sr} (hs : b.sorts[k]? = some s) : sortB b k s = true := by
  simp only [shapeB, Bool.and_eq_true] at h
  have := sortsB_iff.1 h.2.2.2.1 k s hs
  rwa [Nat.zero_add] at this
theorem shapeB_cons {b : Bl} (h : shapeB b = true) {c : Cn} (hc : c ∈ b.cons) : conB b c = true := by
  simp only [shapeB, Bool.and_eq_true] at h
  exact List.all_eq_true.1 h.2.2.2.2 c hc
theorem sortB_row {b : Bl} {k : Nat} {s : Sr} (h : sortB b k s = true) : argSeq b 0 s.idx = true := by
  simp only [sortB, rowB, Bool.and_eq_true] at h
  exact h.1.2
theorem sortB_dec {b : Bl} {k : Nat} {s : Sr} (h : sortB b k s = true) (hd : s.dec = true) : openT s.decT s.idx.length = true := by
  simp only [sortB, maybeB, Bool.and_eq_true, hd, if_true] at h
  exact h.2.2.1
theorem conB_facts {b : Bl} {c : Cn} (h : conB b c = true) : (0 ≤ c.sort ∧ c.sort.toNat < b.sorts.length) ∧ c.idx.length = idxN b c.sort ∧ argSeq b 0 c.args = true ∧ (∀ x, x ∈ c.idx → openT x c.args.length = true) ∧ (decS b c.sort = true → openT c.dec c.args.length = true) := by
  simp only [conB, inR, Bool.and_eq_true, decide_eq_true_eq] at h
  obtain ⟨⟨⟨h1, h2⟩, h3, h4⟩, h5, h6, h7⟩ := h
  refine ⟨⟨h1, by omega⟩, h4, h5, fun x hx => List.all_eq_true.1 h6 x hx, fun hd => ?_⟩
  rw [if_pos hd] at h7
  exact h7

set_option maxRecDepth 4000 in
set_option maxHeartbeats 8000000 in
theorem pcheck_spec (b : Bl) (base : Int) (hb : b.size ≤ 1048576) : FC Tryz.prog 139 [aB b, .int .i64 base] (.int .i64 (positI b base)) := by
  have hsc := scheck_spec b hb
  have hb' : b.size = sizesS b.sorts + sizesC b.cons := rfl
  have hsl := len_le_sizesS b.sorts
  have hcl := len_le_sizesC b.cons
  by_cases hsh : shapeB b = true
  case neg =>
    rw [if_neg hsh] at hsc
    have hp : positI b base = 12 := by unfold positI; rw [if_neg hsh]
    rw [hp]
    refine FC_intro hty Tryz.func139 rfl rfl rfl fun w0 => ?_
    repeat' (first | exact absurd (show (12 : Int) ≠ 0 by decide) ‹_› | refine WL_call 0 rfl hsc rfl rfl rfl ?_ | refine WL_p hty rfl rfl ?_ | refine WL_nil ?_ | refine AC_seq ?_ | refine AC_region ?_ | refine AC_block ?_ | refine AC_skip ?_ | refine AC_condT rfl ?_ | refine AC_condF rfl ?_ | refine AC_exit ?_ | refine AC_ret ?_ | refine WL_ung rfl rfl ?_ | refine WL_offT rfl rfl rfl ?_ | refine WL_offF rfl rfl rfl ?_ | refine WL_offU rfl rfl rfl ?_ | refine WL_m rfl (m_idxN hty rfl rfl rfl (by assumption) rfl) ?_ | refine ends_bool rfl ?_ | refine WL_cmp rfl rfl rfl rfl (fun _ => ?_) (fun _ => ?_) | refine AC_cond rfl (fun _ => ?_) (fun _ => ?_))
    exact ends_int rfl rfl
  rw [if_pos hsh] at hsc
  have hp : positI b base = if base < 0 then 1 else if 65535 < base then 1 else if (b.sorts.all (sortP b base) && consP b base) = true then 0 else 11 := by unfold positI; rw [if_pos hsh]
  rw [hp]
  refine FC_intro hty Tryz.func139 rfl rfl rfl fun w0 => ?_
  repeat' (first | exact absurd rfl ‹_› | refine WL_call 0 rfl hsc rfl rfl rfl ?_ | refine WL_p hty rfl rfl ?_ | refine WL_nil ?_ | refine AC_seq ?_ | refine AC_region ?_ | refine AC_block ?_ | refine AC_skip ?_ | refine AC_condT rfl ?_ | refine AC_condF rfl ?_ | refine AC_exit ?_ | refine AC_ret ?_ | refine WL_ung rfl rfl ?_ | refine WL_offT rfl rfl rfl ?_ | refine WL_offF rfl rfl rfl ?_ | refine WL_offU rfl rfl rfl ?_ | refine WL_m rfl (m_idxN hty rfl rfl rfl (by assumption) rfl) ?_ | refine ends_bool rfl ?_ | refine WL_cmp rfl rfl rfl rfl (fun _ => ?_) (fun _ => ?_) | refine AC_cond rfl (fun _ => ?_) (fun _ => ?_))
  · rw [if_pos (by assumption)]; exact ends_int rfl rfl
  · rw [if_neg (by assumption), if_pos (by assumption)]; exact ends_int rfl rfl
  rename_i b1 b2
  rw [if_neg b1, if_neg b2]
  refine AC_for b.sorts.length (fun j => ∀ (i : Nat) (s : Sr), i < j → b.sorts[i]? = some s → sortP b base s = true)
    (fun j => ⟨envOf [(1, .int .i64 base), (2, .ptr 2 0), (26, sS b.sorts), (27, .int .i64 ((rsS b.sorts).length : Nat)), (28, .int .i64 (j : Nat))], bkOf [(2, .box (cB b))]⟩)
    (less_sub ⟨⟨_, rfl, .inl ⟨.refl _, rfl⟩⟩, ⟨_, rfl, .inl ⟨.refl _, rfl⟩⟩, ⟨_, rfl, .inl ⟨.refl _, rfl⟩⟩, ⟨_, rfl, .inl ⟨.refl _, rfl⟩⟩, ⟨_, rfl, .inl ⟨.refl _, rfl⟩⟩, trivial⟩ ⟨⟨⟨_, rfl, .refl _⟩, rfl⟩, trivial⟩) (fun i s hi => absurd hi (Nat.not_lt_zero _)) ?_
  intro j hj hI
  repeat' (first | refine WL_p hty rfl rfl ?_ | refine WL_nil ?_ | refine AC_seq ?_ | refine AC_region ?_ | refine AC_block ?_ | refine AC_skip ?_ | refine AC_condT rfl ?_ | refine AC_condF rfl ?_ | refine AC_exit ?_ | refine AC_ret ?_ | refine WL_ung rfl rfl ?_ | refine WL_offT rfl rfl rfl ?_ | refine WL_offF rfl rfl rfl ?_ | refine WL_offU rfl rfl rfl ?_ | refine WL_m rfl (m_idxN hty rfl rfl rfl (by assumption) rfl) ?_ | refine ends_bool rfl ?_)
  refine WL_cmp rfl rfl rfl rfl (fun hc => ?_) (fun hc => ?_)
  · have hlt : j < b.sorts.length := by rw [rsS_length] at hc; omega
    obtain ⟨s, hs, hsm⟩ := get_of_lt hlt
    have rs := rsS_get hs
    have hsz := size_le_sizesS hsm
    have hs2 : s.size = sizesA s.idx + s.decT.size := rfl
    have hla := len_le_sizesA s.idx
    have hsb := shapeB_sorts hsh hs
    have hrow := prow_spec b base 0 s.idx hb (by omega) (sortB_row hsb)
    have hnext : sortP b base s = true → ∀ (i : Nat) (s : Sr), i < j + 1 → b.sorts[i]? = some s → sortP b base s = true := fun hp i u hi hu => by
      rcases Nat.lt_or_ge i j with q | q
      · exact hI i u q hu
      · obtain rfl : i = j := by omega
        rw [hs] at hu
        obtain rfl := Option.some.inj hu
        exact hp
    have hbad : sortP b base s = false → ¬ (b.sorts.all (sortP b base) && consP b base) = true := fun hp q => by
      simp only [Bool.and_eq_true] at q
      rw [List.all_eq_true.1 q.1 s hsm] at hp; cases hp
    have hcl2 : s.dec = true → FC Tryz.prog 194 [aP ⟨b, base, s.idx, 0⟩, aT s.decT] (.bool (cleanT b base s.idx 0 s.decT)) := fun hd => by
      obtain ⟨o1, o2, o3⟩ := openT_ok (sortB_dec hsb hd)
      exact clean_spec b base s.idx 0 s.decT hb (by omega) (by omega) o3 (by omega) (by omega)
    have hsp : sortP b base s = (rowP b base 0 s.idx && (!s.dec || cleanT b base s.idx 0 s.decT)) := rfl
    obtain ⟨sx, sl, sd, st⟩ := s
    cases sd
    · repeat' (first | refine WL_callB rfl hrow rfl (fun _ => ?_) (fun _ => ?_) | refine WL_p hty rfl rfl ?_ | refine WL_nil ?_ | refine AC_seq ?_ | refine AC_region ?_ | refine AC_block ?_ | refine AC_skip ?_ | refine AC_condT rfl ?_ | refine AC_condF rfl ?_ | refine AC_exit ?_ | refine AC_ret ?_ | refine WL_ung rfl rfl ?_ | refine WL_offT rfl rfl rfl ?_ | refine WL_offF rfl rfl rfl ?_ | refine WL_offU rfl rfl rfl ?_ | refine WL_m rfl (m_idxN hty rfl rfl rfl (by assumption) rfl) ?_ | refine ends_bool rfl ?_ | refine WL_cmp rfl rfl rfl rfl (fun _ => ?_) (fun _ => ?_) | refine AC_cond rfl (fun _ => ?_) (fun _ => ?_))
      · rename_i hq
        refine ⟨hlt, hnext (by rw [hsp, hq]; rfl), (less_sub ⟨⟨_, rfl, .inl ⟨.refl _, rfl⟩⟩, ⟨_, rfl, .inl ⟨.refl _, rfl⟩⟩, ⟨_, rfl, .inl ⟨.refl _, rfl⟩⟩, ⟨_, rfl, .inl ⟨.refl _, rfl⟩⟩, ⟨_, rfl, see_eq ?_ rfl⟩, trivial⟩ ⟨⟨⟨_, rfl, .refl _⟩, rfl⟩, trivial⟩)⟩
        exact congrArg (AV.int .i64) ((wrap_ok (by omega) (by omega)).trans (by omega))
      · rename_i hq
        refine ends_int rfl ?_
        rw [if_neg (hbad (by rw [hsp, hq]; rfl))]
    · have hcl3 := hcl2 rfl
      repeat' (first | refine WL_callB rfl hrow rfl (fun _ => ?_) (fun _ => ?_) | refine WL_callB rfl hcl3 rfl (fun _ => ?_) (fun _ => ?_) | refine WL_p hty rfl rfl ?_ | refine WL_nil ?_ | refine AC_seq ?_ | refine AC_region ?_ | refine AC_block ?_ | refine AC_skip ?_ | refine AC_condT rfl ?_ | refine AC_condF rfl ?_ | refine AC_exit ?_ | refine AC_ret ?_ | refine WL_ung rfl rfl ?_ | refine WL_offT rfl rfl rfl ?_ | refine WL_offF rfl rfl rfl ?_ | refine WL_offU rfl rfl rfl ?_ | refine WL_m rfl (m_idxN hty rfl rfl rfl (by assumption) rfl) ?_ | refine ends_bool rfl ?_ | refine WL_cmp rfl rfl rfl rfl (fun _ => ?_) (fun _ => ?_) | refine AC_cond rfl (fun _ => ?_) (fun _ => ?_))
      · rename_i hq hq2
        refine ⟨hlt, hnext (by rw [hsp, hq, hq2]; rfl), (less_sub ⟨⟨_, rfl, .inl ⟨.refl _, rfl⟩⟩, ⟨_, rfl, .inl ⟨.refl _, rfl⟩⟩, ⟨_, rfl, .inl ⟨.refl _, rfl⟩⟩, ⟨_, rfl, .inl ⟨.refl _, rfl⟩⟩, ⟨_, rfl, see_eq ?_ rfl⟩, trivial⟩ ⟨⟨⟨_, rfl, .refl _⟩, rfl⟩, trivial⟩)⟩
        exact congrArg (AV.int .i64) ((wrap_ok (by omega) (by omega)).trans (by omega))
      · rename_i hq hq2
        refine ends_int rfl ?_
        rw [if_neg (hbad (by rw [hsp, hq, hq2]; rfl))]
      · rename_i hq
        refine ends_int rfl ?_
        rw [if_neg (hbad (by rw [hsp, hq]; rfl))]
  · obtain rfl : j = b.sorts.length := by rw [rsS_length] at hc; omega
    have hall : b.sorts.all (sortP b base) = true := List.all_eq_true.2 fun s hs => by
      obtain ⟨i, hi, rfl⟩ := List.mem_iff_getElem.1 hs
      exact hI i _ hi (List.getElem?_eq_getElem hi)
    rw [hall, Bool.true_and]
    repeat' (first | refine WL_p hty rfl rfl ?_ | refine WL_nil ?_ | refine AC_seq ?_ | refine AC_region ?_ | refine AC_block ?_ | refine AC_skip ?_ | refine AC_condT rfl ?_ | refine AC_condF rfl ?_ | refine AC_exit ?_ | refine AC_ret ?_ | refine WL_ung rfl rfl ?_ | refine WL_offT rfl rfl rfl ?_ | refine WL_offF rfl rfl rfl ?_ | refine WL_offU rfl rfl rfl ?_ | refine WL_m rfl (m_idxN hty rfl rfl rfl (by assumption) rfl) ?_ | refine ends_bool rfl ?_ | refine WL_cmp rfl rfl rfl rfl (fun _ => ?_) (fun _ => ?_) | refine AC_cond rfl (fun _ => ?_) (fun _ => ?_))
    refine AC_for b.cons.length (fun j => ∀ (i : Nat) (x : Cn), i < j → b.cons[i]? = some x → conP b base (i : Nat) x = true)
      (fun j => ⟨envOf [(1, .int .i64 base), (2, .ptr 2 0), (56, sC b.cons), (57, .int .i64 ((rsC b.cons).length : Nat)), (58, .int .i64 (j : Nat))], bkOf [(2, .box (cB b))]⟩)
      (less_sub ⟨⟨_, rfl, .inl ⟨.refl _, rfl⟩⟩, ⟨_, rfl, .inl ⟨.refl _, rfl⟩⟩, ⟨_, rfl, .inl ⟨.refl _, rfl⟩⟩, ⟨_, rfl, .inl ⟨.refl _, rfl⟩⟩, ⟨_, rfl, .inl ⟨.refl _, rfl⟩⟩, trivial⟩ ⟨⟨⟨_, rfl, .refl _⟩, rfl⟩, trivial⟩) (fun i s hi => absurd hi (Nat.not_lt_zero _)) ?_
    intro j hj hI
    repeat' (first | refine WL_p hty rfl rfl ?_ | refine WL_nil ?_ | refine AC_seq ?_ | refine AC_region ?_ | refine AC_block ?_ | refine AC_skip ?_ | refine AC_condT rfl ?_ | refine AC_condF rfl ?_ | refine AC_exit ?_ | refine AC_ret ?_ | refine WL_ung rfl rfl ?_ | refine WL_offT rfl rfl rfl ?_ | refine WL_offF rfl rfl rfl ?_ | refine WL_offU rfl rfl rfl ?_ | refine WL_m rfl (m_idxN hty rfl rfl rfl (by assumption) rfl) ?_ | refine ends_bool rfl ?_)
    refine WL_cmp rfl rfl rfl rfl (fun hc => ?_) (fun hc => ?_)
    · have hlt : j < b.cons.length := by rw [rsC_length] at hc; omega
      obtain ⟨x, hx, hxm⟩ := get_of_lt hlt
      have rx := rsC_get hx
      have hsz := size_le_sizesC hxm
      have hs2 : x.size = sizesA x.args + sizes x.idx + x.dec.size := rfl
      have hla := len_le_sizesA x.args
      obtain ⟨f1, f2, f3, f4, f5⟩ := conB_facts (shapeB_cons hsh hxm)
      obtain ⟨s, hs, _⟩ := get_of_lt f1.2
      have rs := rsS_get hs
      have hds : decS b x.sort = s.dec := by unfold decS; rw [hs]
      have hrow := prow_spec b base (j : Nat) x.args hb (by omega) f3
      have hidx := indices_spec b base x.args 0 (j : Nat) x.sort x.idx hb (by omega) ⟨by omega, by omega⟩ f1 f2 (fun y hy => openT_ok (f4 y hy))
      have hnext : conP b base (j : Nat) x = true → ∀ (i : Nat) (x : Cn), i < j + 1 → b.cons[i]? = some x → conP b base (i : Nat) x = true := fun hp i u hi hu => by
        rcases Nat.lt_or_ge i j with q | q
        · exact hI i u q hu
        · obtain rfl : i = j := by omega
          rw [hx] at hu
          obtain rfl := Option.some.inj hu
          exact hp
      have hbad : conP b base (j : Nat) x = false → ¬ consP b base = true := fun hp q => by
        rw [consP_iff.1 q j x hx] at hp; cases hp
      have hcl2 : s.dec = true → FC Tryz.prog 194 [aP ⟨b, base, x.args, 0⟩, aT x.dec] (.bool (cleanT b base x.args 0 x.dec)) := fun hd => by
        obtain ⟨o1, o2, o3⟩ := openT_ok (f5 (hds.trans hd))
        exact clean_spec b base x.args 0 x.dec hb (by omega) (by omega) o3 (by omega) (by omega)
      have hsp : conP b base (j : Nat) x = (rowP b base (j : Nat) x.args && (idxP b base x.args 0 (j : Nat) x.sort x.idx && (!s.dec || cleanT b base x.args 0 x.dec))) := by unfold conP; rw [hds]
      obtain ⟨sx, sl, sd, st⟩ := s
      cases sd
      · repeat' (first | refine WL_callB rfl hrow rfl (fun _ => ?_) (fun _ => ?_) | refine WL_callB rfl hidx rfl (fun _ => ?_) (fun _ => ?_) | refine WL_m rfl (m_idxL hty rfl rfl rfl f1.1 rs rfl) ?_ | refine WL_p hty rfl rfl ?_ | refine WL_nil ?_ | refine AC_seq ?_ | refine AC_region ?_ | refine AC_block ?_ | refine AC_skip ?_ | refine AC_condT rfl ?_ | refine AC_condF rfl ?_ | refine AC_exit ?_ | refine AC_ret ?_ | refine WL_ung rfl rfl ?_ | refine WL_offT rfl rfl rfl ?_ | refine WL_offF rfl rfl rfl ?_ | refine WL_offU rfl rfl rfl ?_ | refine WL_m rfl (m_idxN hty rfl rfl rfl (by assumption) rfl) ?_ | refine ends_bool rfl ?_ | refine WL_cmp rfl rfl rfl rfl (fun _ => ?_) (fun _ => ?_) | refine AC_cond rfl (fun _ => ?_) (fun _ => ?_))
        · rename_i hq hq2
          refine ⟨hlt, hnext (by rw [hsp, hq, hq2]; rfl), (less_sub ⟨⟨_, rfl, .inl ⟨.refl _, rfl⟩⟩, ⟨_, rfl, .inl ⟨.refl _, rfl⟩⟩, ⟨_, rfl, .inl ⟨.refl _, rfl⟩⟩, ⟨_, rfl, .inl ⟨.refl _, rfl⟩⟩, ⟨_, rfl, see_eq ?_ rfl⟩, trivial⟩ ⟨⟨⟨_, rfl, .refl _⟩, rfl⟩, trivial⟩)⟩
          exact congrArg (AV.int .i64) ((wrap_ok (by omega) (by omega)).trans (by omega))
        · rename_i hq hq2
          refine ends_int rfl ?_
          rw [if_neg (hbad (by rw [hsp, hq, hq2]; rfl))]
        · rename_i hq
          refine ends_int rfl ?_
          rw [if_neg (hbad (by rw [hsp, hq]; rfl))]
      · have hcl3 := hcl2 rfl
        repeat' (first | refine WL_callB rfl hrow rfl (fun _ => ?_) (fun _ => ?_) | refine WL_callB rfl hidx rfl (fun _ => ?_) (fun _ => ?_) | refine WL_callB rfl hcl3 rfl (fun _ => ?_) (fun _ => ?_) | refine WL_m rfl (m_idxL hty rfl rfl rfl f1.1 rs rfl) ?_ | refine WL_p hty rfl rfl ?_ | refine WL_nil ?_ | refine AC_seq ?_ | refine AC_region ?_ | refine AC_block ?_ | refine AC_skip ?_ | refine AC_condT rfl ?_ | refine AC_condF rfl ?_ | refine AC_exit ?_ | refine AC_ret ?_ | refine WL_ung rfl rfl ?_ | refine WL_offT rfl rfl rfl ?_ | refine WL_offF rfl rfl rfl ?_ | refine WL_offU rfl rfl rfl ?_ | refine WL_m rfl (m_idxN hty rfl rfl rfl (by assumption) rfl) ?_ | refine ends_bool rfl ?_ | refine WL_cmp rfl rfl rfl rfl (fun _ => ?_) (fun _ => ?_) | refine AC_cond rfl (fun _ => ?_) (fun _ => ?_))
        · rename_i hq hq2 hq3
          refine ⟨hlt, hnext (by rw [hsp, hq, hq2, hq3]; rfl), (less_sub ⟨⟨_, rfl, .inl ⟨.refl _, rfl⟩⟩, ⟨_, rfl, .inl ⟨.refl _, rfl⟩⟩, ⟨_, rfl, .inl ⟨.refl _, rfl⟩⟩, ⟨_, rfl, .inl ⟨.refl _, rfl⟩⟩, ⟨_, rfl, see_eq ?_ rfl⟩, trivial⟩ ⟨⟨⟨_, rfl, .refl _⟩, rfl⟩, trivial⟩)⟩
          exact congrArg (AV.int .i64) ((wrap_ok (by omega) (by omega)).trans (by omega))
        · rename_i hq hq2 hq3
          refine ends_int rfl ?_
          rw [if_neg (hbad (by rw [hsp, hq, hq2, hq3]; rfl))]
        · rename_i hq hq2
          refine ends_int rfl ?_
          rw [if_neg (hbad (by rw [hsp, hq, hq2]; rfl))]
        · rename_i hq
          refine ends_int rfl ?_
          rw [if_neg (hbad (by rw [hsp, hq]; rfl))]
    · obtain rfl : j = b.cons.length := by rw [rsC_length] at hc; omega
      have hcp : consP b base = true := consP_iff.2 fun i x hx => hI i x (List.getElem?_eq_some_iff.1 hx).1 hx
      repeat' (first | refine WL_p hty rfl rfl ?_ | refine WL_nil ?_ | refine AC_seq ?_ | refine AC_region ?_ | refine AC_block ?_ | refine AC_skip ?_ | refine AC_condT rfl ?_ | refine AC_condF rfl ?_ | refine AC_exit ?_ | refine AC_ret ?_ | refine WL_ung rfl rfl ?_ | refine WL_offT rfl rfl rfl ?_ | refine WL_offF rfl rfl rfl ?_ | refine WL_offU rfl rfl rfl ?_ | refine WL_m rfl (m_idxN hty rfl rfl rfl (by assumption) rfl) ?_ | refine ends_bool rfl ?_ | refine WL_cmp rfl rfl rfl rfl (fun _ => ?_) (fun _ => ?_) | refine AC_cond rfl (fun _ => ?_) (fun _ => ?_))
      refine ends_int rfl ?_
      rw [if_pos hcp]

end Go.Proofs.YtoknnfhgoikpiaaGreat

/-
  Whether an entry of a row is right.
-/
namespace Go.Proofs.YtoknnfhgoikpiaaGreat
set_option linter.unusedSimpArgs false
set_option linter.unusedVariables false
open Go.Aw Go.RowKit
attribute [local irreducible] WL AC WD WE MStep OkOp

def zB : Bl := ⟨[], [], 0⟩
def numberI (e : En) : Int := if e.kind = 3 then formerI e.block e.base e.which else if e.kind = 4 then decoderI e.block e.base e.which else if e.kind = 5 then constructorI e.block e.base e.which else eliminatorI e.block e.base e.which
def rightE (e : En) (i : Int) : Bool := scopeT e.typ 0 i && (if e.kind = 1 then decide (e.base = 0) && (decide (e.which = 0) && (decide (e.block = zB) && decide (e.body = zT)))
  else if e.kind = 2 then decide (e.base = 0) && (decide (e.which = 0) && (decide (e.block = zB) && scopeT e.body 0 i))
  else if e.kind = 3 ∨ e.kind = 4 ∨ e.kind = 5 ∨ e.kind = 6 then decide (e.body = zT) && (decide (0 ≤ e.base) && decide (numberI e = i)) else false)

theorem bare_spec (b : Bl) (hb : b.size ≤ 1048576) : FC Tryz.prog 129 [aB b] (.bool (decide (b = zB))) := by
  unfold Bl.size at hb
  have hsl := len_le_sizesS b.sorts
  have hcl := len_le_sizesC b.cons
  obtain ⟨ss, cc, el⟩ := b
  simp only at hb hsl hcl
  have hw : IntKind.i64.wrap (((rsS ss).length : Int) + (rsC cc).length) = (ss.length : Int) + cc.length := by rw [rsS_length, rsC_length]; exact wrap_ok (by omega) (by omega)
  refine FC_intro hty Tryz.func129 rfl rfl rfl fun w0 => ?_
  repeat' (first | refine WL_p hty rfl rfl ?_ | refine WL_nil ?_ | refine AC_seq ?_ | refine AC_region ?_ | refine AC_skip ?_ | refine AC_ret ?_ | refine WL_ung rfl rfl ?_ | refine WL_offT rfl rfl rfl ?_ | refine WL_offF rfl rfl rfl ?_ | refine WL_offU rfl rfl rfl ?_ | refine ends_bool rfl ?_ | refine WL_cmp rfl rfl rfl rfl (fun _ => ?_) (fun _ => ?_))
  · rename_i h1 h2
    have h1 : IntKind.i64.wrap (((rsS ss).length : Int) + (rsC cc).length) = 0 := h1
    have h2 : el = 0 := h2
    rw [hw] at h1
    have e1 : ss = [] := List.length_eq_zero_iff.1 (by omega)
    have e2 : cc = [] := List.length_eq_zero_iff.1 (by omega)
    rw [e1, e2, h2]; exact (decide_eq_true rfl).symm
  · rename_i h1 h2
    exact (decide_eq_false fun q => h2 (congrArg Bl.elim q)).symm
  · rename_i h1
    refine (decide_eq_false fun q => h1 ?_).symm
    show IntKind.i64.wrap (((rsS ss).length : Int) + (rsC cc).length) = 0
    rw [hw]
    have e1 : ss = [] := congrArg Bl.sorts q
    have e2 : cc = [] := congrArg Bl.cons q
    rw [e1, e2]; rfl

theorem number_spec (e : En) (hb : e.block.size ≤ 1048576) : FC Tryz.prog 131 [aE e] (.int .i64 (numberI e)) := by
  refine FC_intro hty Tryz.func131 rfl rfl rfl fun w0 => ?_
  repeat' (first | refine WL_call 0 rfl (former_spec e.block e.base e.which hb) rfl rfl rfl ?_ | refine WL_call 0 rfl (decoder_spec e.block e.base e.which hb) rfl rfl rfl ?_ | refine WL_call 0 rfl (constructor_spec e.block e.base e.which hb) rfl rfl rfl ?_ | refine WL_call 0 rfl (eliminator_spec e.block e.base e.which hb) rfl rfl rfl ?_ | refine WL_p hty rfl rfl ?_ | refine WL_nil ?_ | refine AC_seq ?_ | refine AC_region ?_ | refine AC_block ?_ | refine AC_skip ?_ | refine AC_condT rfl ?_ | refine AC_condF rfl ?_ | refine AC_ret ?_ | refine ends_bool rfl ?_ | refine WL_cmp rfl rfl rfl rfl (fun _ => ?_) (fun _ => ?_) | refine AC_cond rfl (fun _ => ?_) (fun _ => ?_))
  all_goals refine ends_int rfl ?_
  all_goals unfold numberI
  all_goals first
    | (rw [if_pos (by assumption)]; done)
    | (rw [if_neg (by assumption), if_pos (by assumption)]; done)
    | (rw [if_neg (by assumption), if_neg (by assumption), if_pos (by assumption)]; done)
    | (rw [if_neg (by assumption), if_neg (by assumption), if_neg (by assumption)]; done)

set_option maxHeartbeats 4000000 in
theorem right_spec (e : En) (i : Int) (hs : e.size ≤ 1048576) : FC Tryz.prog 76 [aE e, .int .i64 i] (.bool (rightE e i)) := by
  have hs' : e.size = e.typ.size + e.body.size + e.block.size := rfl
  have h1 := tscope_spec e.typ 0 i (by omega)
  have h2 := tscope_spec e.body 0 i (by omega)
  have h3 := tnone_spec e.body
  have h4 := bare_spec e.block (by omega)
  have h5 := number_spec e (by omega)
  refine FC_intro hty Tryz.func76 rfl rfl rfl fun w0 => ?_
  repeat' (first | refine WL_callB rfl h1 rfl (fun _ => ?_) (fun _ => ?_) | refine WL_callB rfl h2 rfl (fun _ => ?_) (fun _ => ?_) | refine WL_callB rfl h3 rfl (fun _ => ?_) (fun _ => ?_) | refine WL_callB rfl h4 rfl (fun _ => ?_) (fun _ => ?_) | refine WL_call 0 rfl h5 rfl rfl rfl ?_ | refine WL_p hty rfl rfl ?_ | refine WL_nil ?_ | refine AC_seq ?_ | refine AC_region ?_ | refine AC_block ?_ | refine AC_skip ?_ | refine AC_condT rfl ?_ | refine AC_condF rfl ?_ | refine AC_ret ?_ | refine WL_ung rfl rfl ?_ | refine WL_offT rfl rfl rfl ?_ | refine WL_offF rfl rfl rfl ?_ | refine WL_offU rfl rfl rfl ?_ | refine ends_bool rfl ?_ | refine WL_cmp rfl rfl rfl rfl (fun _ => ?_) (fun _ => ?_) | refine AC_cond rfl (fun _ => ?_) (fun _ => ?_))
  all_goals unfold rightE
  all_goals simp [*]

end Go.Proofs.YtoknnfhgoikpiaaGreat

/-
  Whether a row of entries is right.
-/
namespace Go.Proofs.YtoknnfhgoikpiaaGreat
set_option linter.unusedSimpArgs false
set_option linter.unusedVariables false
open Go.Aw Go.RowKit
def tbKnown78_1 : List (Nat × List Nat) := [(0, []), (1, []), (2, [0, 1]), (3, [0, 1, 2]), (4, [0, 1, 2, 3]), (5, [0, 1, 2, 3, 4]), (6, [0, 1, 2, 3, 4, 5]), (7, [0, 1, 2, 3, 4]), (8, [0, 1, 2, 3, 4]), (9, [0, 1, 2, 3, 4, 5, 6, 8]), (10, [0, 1, 2, 3, 4, 5, 6, 7, 8, 9]), (11, [0, 1, 2, 3, 4, 5, 6, 7, 8, 9, 10]), (12, [0, 1, 2, 3, 4, 5, 6, 7, 8, 9, 10, 11]), (13, [0, 1, 2, 3, 4, 5, 6, 7, 8, 9, 10, 11, 12])]
attribute [local irreducible] WL AC WD WE MStep OkOp

/-! in a block of right shape constants' numbers are small -/
theorem openT_okN {t : Tm} {v : Int} (h : openT t v = true) : okN t = true := by
  simp only [openT, scopeT, Bool.and_eq_true, decide_eq_true_eq] at h
  exact formed_okN t (checkT_ok0 h.2.2.1)
theorem zT_okN : okN zT = true := rfl
theorem openSeq_okN : ∀ {l : List Tm} {i : Int}, openSeq i l = true → ∀ t, t ∈ l → okN t = true
  | [], _, _, t, ht => by cases ht
  | a :: l, i, h, t, ht => by
    rw [openSeq, Bool.and_eq_true] at h
    rcases List.mem_cons.1 ht with rfl | ht
    · exact openT_okN h.1
    · exact openSeq_okN h.2 t ht
theorem argB_okN {b : Bl} {a : Ar} {i : Int} (h : argB b a i = true) : ∀ t, t ∈ tmsA a → okN t = true := by
  intro t ht
  unfold argB at h
  split at h
  · simp only [Bool.and_eq_true, decide_eq_true_eq] at h
    obtain ⟨⟨h1, _⟩, h2, h3⟩ := h
    rcases List.mem_cons.1 ht with rfl | ht
    · rw [h1]; rfl
    · rcases List.mem_append.1 ht with ht | ht
      · exact openSeq_okN h2 t ht
      · exact openT_okN (List.all_eq_true.1 h3 t ht)
  · simp only [Bool.and_eq_true, decide_eq_true_eq] at h
    obtain ⟨h1, h2, _⟩ := h
    rcases List.mem_cons.1 ht with rfl | ht
    · exact openT_okN h1
    · have e1 : a.dom = [] := List.length_eq_zero_iff.1 (by omega)
      have e2 : a.idx = [] := List.length_eq_zero_iff.1 (by omega)
      rw [e1, e2] at ht; cases ht
theorem argSeq_okN {b : Bl} : ∀ {l : List Ar} {i : Int}, argSeq b i l = true → ∀ t, t ∈ termsA l → okN t = true
  | [], _, _, t, ht => by cases ht
  | a :: l, i, h, t, ht => by
    rw [argSeq, Bool.and_eq_true] at h
    unfold termsA at ht
    rw [List.flatMap_cons] at ht
    rcases List.mem_append.1 ht with ht | ht
    · exact argB_okN h.1 t ht
    · exact argSeq_okN h.2 t ht
theorem shape_okN {b : Bl} (h : shapeB b = true) : ∀ t, t ∈ termsB b → okN t = true := by
  intro t ht
  rcases List.mem_append.1 ht with ht | ht
  · obtain ⟨s, hs, ht⟩ := List.mem_flatMap.1 ht
    obtain ⟨k, hk⟩ := List.getElem?_of_mem hs
    have hb := shapeB_sorts h hk
    simp only [sortB, rowB, Bool.and_eq_true] at hb
    rcases List.mem_cons.1 ht with rfl | ht
    · have := hb.2.2.1
      unfold maybeB at this
      split at this
      · exact openT_okN this
      · rw [decide_eq_true_eq] at this; rw [this]; rfl
    · exact argSeq_okN hb.1.2 t ht
  · obtain ⟨c, hc, ht⟩ := List.mem_flatMap.1 ht
    have hb := shapeB_cons h hc
    simp only [conB, Bool.and_eq_true] at hb
    rcases List.mem_cons.1 ht with rfl | ht
    · have := hb.2.2.2
      split at this
      · exact openT_okN this
      · rw [decide_eq_true_eq] at this; rw [this]; rfl
    · rcases List.mem_append.1 ht with ht | ht
      · exact openT_okN (List.all_eq_true.1 hb.2.2.1 t ht)
      · exact argSeq_okN hb.2.1 t ht
theorem positI_shape {b : Bl} {base : Int} (h : positI b base = 0) : shapeB b = true := by
  unfold positI at h
  split at h
  · assumption
  · cases h
theorem positI_base {b : Bl} {base : Int} (h : positI b base = 0) : 0 ≤ base ∧ base ≤ 65535 := by
  unfold positI at h
  split at h
  · split at h
    · cases h
    · split at h
      · cases h
      · omega
  · cases h

def knownB (b : Bl) (base : Int) : Bool := decide (positI b base = 0) && decide (namesB b < base + (countN b : Nat))
theorem countN_le (b : Bl) (h : b.size ≤ 1048576) : countN b ≤ 4194304 := by
  unfold Bl.size at h
  have h1 := len_le_sizesS b.sorts
  have h2 := len_le_sizesC b.cons
  have h3 := decsN_le b.sorts
  unfold countN; omega

set_option maxHeartbeats 4000000 in
theorem known_spec (b : Bl) (base : Int) (hb : b.size ≤ 1048576) : FC Tryz.prog 78 [aB b, .int .i64 base] (.bool (knownB b base)) := by
  have h1 := pcheck_spec b base hb
  have h3 := count_spec b hb
  have h4 := countN_le b hb
  by_cases hp : positI b base = 0
  · have h2 := names_spec b hb (shape_okN (positI_shape hp))
    have h5 := positI_base hp
    have hw : IntKind.i64.wrap (base + (countN b : Nat)) = base + (countN b : Nat) := wrap_ok (by omega) (by omega)
    refine FC_intro hty Tryz.func78 rfl rfl rfl fun w0 => ?_
    repeat' (first | exact absurd hp (by assumption) | refine AC_drawnE (id := 1) tbKnown78_1 rfl (by kernel_rfl) ?_ | refine WE_call 0 rfl h1 rfl rfl rfl ?_ | refine WE_call 0 rfl h2 rfl rfl rfl ?_ | refine WE_call 0 rfl h3 rfl rfl rfl ?_ | refine WE_cons (.inl ⟨rfl, stepE_ok hty rfl rfl⟩) ?_ | refine WE_ung rfl rfl ?_ | refine WE_offT rfl rfl rfl ?_ | refine WE_offF rfl rfl rfl ?_ | refine WE_offU rfl rfl rfl ?_ | refine WE_nil ⟨by kernel_rfl, ?_⟩ | refine WL_p hty rfl rfl ?_ | refine WL_nil ?_ | refine AC_seq ?_ | refine AC_region ?_ | refine AC_skip ?_ | refine AC_ret ?_ | refine ends_bool rfl ?_ | refine WE_cmp rfl rfl rfl rfl (fun _ => ?_) (fun _ => ?_))
    all_goals simp [knownB, hp]
    all_goals (rw [hw] at *; omega)
  · refine FC_intro hty Tryz.func78 rfl rfl rfl fun w0 => ?_
    repeat' (first | exact absurd (by assumption) hp | refine AC_drawnE (id := 1) tbKnown78_1 rfl (by kernel_rfl) ?_ | refine WE_call 0 rfl h1 rfl rfl rfl ?_ | refine WE_cons (.inl ⟨rfl, stepE_ok hty rfl rfl⟩) ?_ | refine WE_ung rfl rfl ?_ | refine WE_offT rfl rfl rfl ?_ | refine WE_offF rfl rfl rfl ?_ | refine WE_offU rfl rfl rfl ?_ | refine WE_nil ⟨by kernel_rfl, ?_⟩ | refine WL_p hty rfl rfl ?_ | refine WL_nil ?_ | refine AC_seq ?_ | refine AC_region ?_ | refine AC_skip ?_ | refine AC_ret ?_ | refine ends_bool rfl ?_ | refine WE_cmp rfl rfl rfl rfl (fun _ => ?_) (fun _ => ?_))
    all_goals simp [knownB, hp]

/-! a row -/
def put1 (f : Int → Option Bl) (e : En) : Int → Option Bl := if e.kind < 3 then f else fun i => if i = e.base then some e.block else f i
def seenE (l : List En) : Int → Option Bl := l.foldl put1 (fun _ => none)
theorem seenE_next {l : List En} {i : Nat} {e : En} (h : l[i]? = some e) : seenE (l.take (i + 1)) = put1 (seenE (l.take i)) e := by
  unfold seenE
  rw [List.take_add_one, h, Option.toList_some, List.foldl_append]; rfl
def cntE : List En → Nat
  | [] => 0
  | e :: l => (if e.kind < 3 then 0 else 1) + cntE l
theorem cntE_next {l : List En} {i : Nat} {e : En} (h : l[i]? = some e) : cntE (l.take (i + 1)) = cntE (l.take i) + (if e.kind < 3 then 0 else 1) := by
  rw [List.take_add_one, h, Option.toList_some]
  have : ∀ (x : List En), cntE (x ++ [e]) = cntE x + (if e.kind < 3 then 0 else 1) := by
    intro x
    induction x with
    | nil => simp [cntE]
    | cons a x ih => simp only [List.cons_append, cntE, ih]; omega
  exact this _
theorem cntE_le : ∀ l : List En, cntE l ≤ l.length
  | [] => Nat.le_refl _
  | e :: l => by
    have := cntE_le l
    simp only [cntE, List.length_cons]; split <;> omega
def freshB (seen : Int → Option Bl) (e : En) : Bool := match seen e.base with
  | some b => decide (b = e.block)
  | none => knownB e.block e.base
def entryB (seen : Int → Option Bl) (e : En) (i : Int) : Bool := rightE e i && (decide (e.kind < 3) || freshB seen e)
def rowOK : (Int → Option Bl) → Nat → List En → Bool
  | _, _, [] => true
  | f, i, e :: l => entryB f e i && rowOK (put1 f e) (i + 1) l
def envI (l : List En) : Int := if 200 < l.length then 13 else if rowOK (fun _ => none) 0 l = true then 0 else 12

theorem rowOK_split : ∀ {l : List En} {j : Nat} {e : En}, l[j]? = some e → ∀ (f : Int → Option Bl) (i : Nat), rowOK f i l = (rowOK f i (l.take j) && (entryB ((l.take j).foldl put1 f) e ((i + j : Nat) : Int) && rowOK (put1 ((l.take j).foldl put1 f) e) (i + j + 1) (l.drop (j + 1))))
  | [], _, _, h, _, _ => by simp at h
  | a :: l, 0, e, h, f, i => by
    obtain rfl := Option.some.inj (show some a = some e from h)
    simp [rowOK]
  | a :: l, j + 1, e, h, f, i => by
    have h' : l[j]? = some e := by simpa using h
    have := rowOK_split h' (put1 f a) (i + 1)
    simp only [List.take_succ_cons, List.drop_succ_cons, List.foldl_cons, rowOK]
    rw [this, Bool.and_assoc, show i + 1 + j = i + (j + 1) by omega]
theorem rowOK_next {l : List En} {j : Nat} {e : En} (h : l[j]? = some e) : rowOK (fun _ => none) 0 (l.take (j + 1)) = (rowOK (fun _ => none) 0 (l.take j) && entryB (seenE (l.take j)) e (j : Nat)) := by
  have hlt : j < l.length := (List.getElem?_eq_some_iff.1 h).1
  have h2 : (l.take (j + 1))[j]? = some e := by rw [List.getElem?_take_of_lt (by omega)]; exact h
  rw [rowOK_split h2 (fun _ => none) 0, List.take_take, Nat.min_eq_left (by omega), List.drop_eq_nil_of_le (by rw [List.length_take]; omega)]
  simp [rowOK, seenE]
theorem rowOK_not {l : List En} {j : Nat} {e : En} (h : l[j]? = some e) (hn : entryB (seenE (l.take j)) e (j : Nat) = false) : rowOK (fun _ => none) 0 l = false := by
  rw [rowOK_split h (fun _ => none) 0]
  unfold seenE at hn
  rw [show ((0 + j : Nat) : Int) = (j : Nat) by omega, hn]; simp

theorem placeI_base {base a k m i : Int} (h : placeI base a k m = i) (hi : 0 ≤ i) : 0 ≤ base ∧ base ≤ 65535 := by
  unfold placeI at h
  split at h
  · omega
  · split at h <;> omega
theorem number_base {e : En} {i : Int} (h : numberI e = i) (hi : 0 ≤ i) : 0 ≤ e.base ∧ e.base ≤ 65535 := by
  unfold numberI at h
  split at h
  · exact placeI_base h hi
  · split at h
    · unfold decoderI at h
      split at h
      · omega
      · split at h
        · omega
        · split at h
          · exact placeI_base h hi
          · omega
    · split at h
      · exact placeI_base h hi
      · exact placeI_base h hi
theorem right_base {e : En} {i : Int} (h : rightE e i = true) (hk : ¬ e.kind < 3) (hi : 0 ≤ i) : 0 ≤ e.base ∧ e.base ≤ 65535 := by
  unfold rightE at h
  rw [Bool.and_eq_true] at h
  have h := h.2
  rw [if_neg (by omega), if_neg (by omega)] at h
  split at h
  · simp only [Bool.and_eq_true, decide_eq_true_eq] at h
    exact number_base h.2.2 hi
  · cases h

/-- What is in the map. -/
def mapE (f : Int → Option Bl) : Int → Option AV := fun i => (f i).map aB
theorem mapE_put {f : Int → Option Bl} {e : En} (h : ¬ e.kind < 3) : putF (mapE f) e.base (aB e.block) = mapE (put1 f e) := by
  funext i
  unfold putF mapE put1
  rw [if_neg h]
  by_cases e1 : i = e.base
  · rw [if_pos e1, if_pos e1]; rfl
  · rw [if_neg e1, if_neg e1]
theorem hmapE : Tryz.prog.underlying 101 = some (.map 3 46) := by kernel_rfl

theorem seenE_mem (l : List En) {x : Int} {b : Bl} (h : seenE l x = some b) : ∃ e, e ∈ l ∧ e.block = b := by
  have : ∀ (l : List En) (f : Int → Option Bl), l.foldl put1 f x = some b → f x = some b ∨ ∃ e, e ∈ l ∧ e.block = b := by
    intro l
    induction l with
    | nil => intro f h; exact .inl h
    | cons a l ih =>
      intro f h
      rcases ih _ h with q | ⟨e, q1, q2⟩
      · unfold put1 at q
        split at q
        · exact .inl q
        · dsimp only at q
          split at q
          · exact .inr ⟨a, List.mem_cons_self, Option.some.inj q⟩
          · exact .inl q
      · exact .inr ⟨e, List.mem_cons_of_mem _ q1, q2⟩
  rcases this l _ h with q | q
  · cases q
  · exact q

set_option maxHeartbeats 8000000 in
theorem env_spec (l : List En) (hl : sizesE l ≤ 1048576) : FC Tryz.prog 22 [sE l] (.int .i64 (envI l)) := by
  have hlen := len_le_sizesE l
  by_cases hb : 200 < l.length
  · have he : envI l = 13 := by unfold envI; rw [if_pos hb]
    rw [he]
    refine FC_intro hty Tryz.func22 rfl rfl rfl fun w0 => ?_
    repeat' (first | (rename_i hc; exact absurd (show ((rsE l).length : Int) > 200 by rw [rsE_length]; omega) hc) | refine WL_p hty rfl rfl ?_ | refine WL_nil ?_ | refine AC_seq ?_ | refine AC_region ?_ | refine AC_block ?_ | refine AC_skip ?_ | refine AC_condT rfl ?_ | refine AC_condF rfl ?_ | refine AC_exit ?_ | refine AC_ret ?_ | refine WL_ung rfl rfl ?_ | refine WL_offT rfl rfl rfl ?_ | refine WL_offF rfl rfl rfl ?_ | refine WL_offU rfl rfl rfl ?_ | refine WL_m rfl (m_idxN hty rfl rfl rfl (by assumption) rfl) ?_ | refine ends_bool rfl ?_ | refine WL_cmp rfl rfl rfl rfl (fun _ => ?_) (fun _ => ?_) | refine AC_cond rfl (fun _ => ?_) (fun _ => ?_))
    all_goals exact ends_int rfl rfl
  have he : envI l = if rowOK (fun _ => none) 0 l = true then 0 else 12 := by unfold envI; rw [if_neg hb]
  refine FC_intro hty Tryz.func22 rfl rfl rfl fun w0 => ?_
  repeat' (first | (rename_i hc; exact absurd hc (show ¬ ((rsE l).length : Int) > 200 by rw [rsE_length]; omega)) | refine WL_m rfl (m_makeMapO 50 rfl rfl) ?_ | refine WL_p hty rfl rfl ?_ | refine WL_nil ?_ | refine AC_seq ?_ | refine AC_region ?_ | refine AC_block ?_ | refine AC_skip ?_ | refine AC_condT rfl ?_ | refine AC_condF rfl ?_ | refine AC_exit ?_ | refine AC_ret ?_ | refine WL_ung rfl rfl ?_ | refine WL_offT rfl rfl rfl ?_ | refine WL_offF rfl rfl rfl ?_ | refine WL_offU rfl rfl rfl ?_ | refine WL_m rfl (m_idxN hty rfl rfl rfl (by assumption) rfl) ?_ | refine ends_bool rfl ?_ | refine WL_cmp rfl rfl rfl rfl (fun _ => ?_) (fun _ => ?_) | refine AC_cond rfl (fun _ => ?_) (fun _ => ?_))
  refine AC_for l.length (fun i => rowOK (fun _ => none) 0 (l.take i) = true) (fun i => ⟨envOf [(3, .mp 50), (12, sE l), (13, .int .i64 ((rsE l).length : Nat)), (14, .int .i64 (i : Nat))], bkOf [(50, .mp none (cntE (l.take i)) (mapE (seenE (l.take i))))]⟩)
    (less_sub ⟨⟨_, rfl, .inl ⟨.refl _, rfl⟩⟩, ⟨_, rfl, .inl ⟨.refl _, rfl⟩⟩, ⟨_, rfl, .inl ⟨.refl _, rfl⟩⟩, ⟨_, rfl, .inl ⟨.refl _, rfl⟩⟩, trivial⟩ ⟨⟨⟨_, rfl, .refl _⟩, rfl⟩, trivial⟩) rfl ?_
  intro i hi hrow
  repeat' (first | refine WL_p hty rfl rfl ?_ | refine WL_nil ?_ | refine AC_seq ?_ | refine AC_region ?_ | refine AC_block ?_ | refine AC_skip ?_ | refine AC_condT rfl ?_ | refine AC_condF rfl ?_ | refine AC_exit ?_ | refine AC_ret ?_ | refine WL_ung rfl rfl ?_ | refine WL_offT rfl rfl rfl ?_ | refine WL_offF rfl rfl rfl ?_ | refine WL_offU rfl rfl rfl ?_ | refine WL_m rfl (m_idxN hty rfl rfl rfl (by assumption) rfl) ?_ | refine ends_bool rfl ?_)
  refine WL_cmp rfl rfl rfl rfl (fun hc => ?_) (fun hc => ?_)
  · have hlt : i < l.length := by rw [rsE_length] at hc; omega
    obtain ⟨e, he', hmem⟩ := get_of_lt hlt
    have re := rsE_get he'
    have hes := size_le_sizesE hmem
    have hes' : e.size = e.typ.size + e.body.size + e.block.size := rfl
    have hr := right_spec e (i : Nat) (by omega)
    have hnx := rowOK_next he'
    rw [hrow, Bool.true_and] at hnx
    have hc1 := cntE_next he'
    have hs1 := seenE_next he'
    have hcl := cntE_le (l.take i)
    have htl : (l.take i).length ≤ 200 := by rw [List.length_take]; omega
    have hml : cntE (l.take i) < maxLen := Nat.lt_of_le_of_lt (show _ ≤ 200 by omega) (by decide)
    have hbad : entryB (seenE (l.take i)) e (i : Nat) = false → (12 : Int) = envI l := fun q => by rw [he, if_neg (by rw [rowOK_not he' q]; exact Bool.false_ne_true)]
    have hinc : AV.int .i64 (IntKind.i64.wrap ((i : Int) + 1)) = AV.int .i64 ((i + 1 : Nat) : Int) := congrArg (AV.int .i64) ((wrap_ok (by omega) (by omega)).trans (by omega))
    cases hrt : rightE e (i : Nat) with
    | false =>
      rw [hrt] at hr
      have hb0 := hbad (by unfold entryB; rw [hrt]; rfl)
      repeat' (first | refine WL_call 0 rfl hr rfl rfl rfl ?_ | refine WL_p hty rfl rfl ?_ | refine WL_nil ?_ | refine AC_seq ?_ | refine AC_region ?_ | refine AC_block ?_ | refine AC_skip ?_ | refine AC_condT rfl ?_ | refine AC_condF rfl ?_ | refine AC_exit ?_ | refine AC_ret ?_ | refine WL_ung rfl rfl ?_ | refine WL_offT rfl rfl rfl ?_ | refine WL_offF rfl rfl rfl ?_ | refine WL_offU rfl rfl rfl ?_ | refine WL_m rfl (m_idxN hty rfl rfl rfl (by assumption) rfl) ?_ | refine ends_bool rfl ?_ | refine WL_cmp rfl rfl rfl rfl (fun _ => ?_) (fun _ => ?_) | refine AC_cond rfl (fun _ => ?_) (fun _ => ?_))
      exact ends_int rfl hb0
    | true =>
      rw [hrt] at hr
      by_cases hk : e.kind < 3
      · have hen : entryB (seenE (l.take i)) e (i : Nat) = true := by unfold entryB; rw [hrt, decide_eq_true hk]; rfl
        repeat' (first | exact absurd hk (by assumption) | refine WL_call 0 rfl hr rfl rfl rfl ?_ | refine WL_p hty rfl rfl ?_ | refine WL_nil ?_ | refine AC_seq ?_ | refine AC_region ?_ | refine AC_block ?_ | refine AC_skip ?_ | refine AC_condT rfl ?_ | refine AC_condF rfl ?_ | refine AC_exit ?_ | refine AC_ret ?_ | refine WL_ung rfl rfl ?_ | refine WL_offT rfl rfl rfl ?_ | refine WL_offF rfl rfl rfl ?_ | refine WL_offU rfl rfl rfl ?_ | refine WL_m rfl (m_idxN hty rfl rfl rfl (by assumption) rfl) ?_ | refine ends_bool rfl ?_ | refine WL_cmp rfl rfl rfl rfl (fun _ => ?_) (fun _ => ?_) | refine AC_cond rfl (fun _ => ?_) (fun _ => ?_))
        refine ⟨hlt, by rw [hnx, hen], (less_sub ⟨⟨_, rfl, .inl ⟨.refl _, rfl⟩⟩, ⟨_, rfl, .inl ⟨.refl _, rfl⟩⟩, ⟨_, rfl, .inl ⟨.refl _, rfl⟩⟩, ⟨_, rfl, see_eq ?_ rfl⟩, trivial⟩ ⟨⟨⟨_, rfl, .of_eq ?_⟩, rfl⟩, trivial⟩)⟩
        · exact hinc
        · rw [hc1, hs1, if_pos hk]
          unfold put1
          rw [if_pos hk]; rfl
      · have hwf := wf_small (right_base hrt hk (by omega))
        have hmp : AB.mp none (cntE (l.take i) + 1) (putF (mapE (seenE (l.take i))) e.base (aB e.block)) = AB.mp none (cntE (l.take (i + 1))) (mapE (seenE (l.take (i + 1)))) := by
          rw [hc1, hs1, if_neg hk, mapE_put hk]
        cases hse : seenE (l.take i) e.base with
        | none =>
          have hlk : ∀ z, Go.Aw.lookV (mapE (seenE (l.take i))) e.base z = .tup [z, .bool false] := fun z => by unfold Go.Aw.lookV mapE; rw [hse]; rfl
          have hkn := known_spec e.block e.base (by omega)
          have hen : entryB (seenE (l.take i)) e (i : Nat) = knownB e.block e.base := by unfold entryB freshB; rw [hrt, hse, decide_eq_false hk]; rfl
          cases hkb : knownB e.block e.base with
          | true =>
            rw [hkb] at hkn hen
            repeat' (first | exact absurd (by assumption) hk | refine WL_call 0 rfl hr rfl rfl rfl ?_ | refine WL_call 0 rfl hkn rfl rfl rfl ?_ | refine WL_m rfl (m_lookup2 hty hmapE hint rfl rfl rfl rfl rfl hwf (Nat.le_of_lt hml) (hlk _) rfl) ?_ | refine WL_m rfl (m_mapUpdate hmapE hint rfl rfl rfl hwf rfl rfl hml) ?_ | refine WL_p hty rfl rfl ?_ | refine WL_nil ?_ | refine AC_seq ?_ | refine AC_region ?_ | refine AC_block ?_ | refine AC_skip ?_ | refine AC_condT rfl ?_ | refine AC_condF rfl ?_ | refine AC_exit ?_ | refine AC_ret ?_ | refine WL_ung rfl rfl ?_ | refine WL_offT rfl rfl rfl ?_ | refine WL_offF rfl rfl rfl ?_ | refine WL_offU rfl rfl rfl ?_ | refine WL_m rfl (m_idxN hty rfl rfl rfl (by assumption) rfl) ?_ | refine ends_bool rfl ?_ | refine WL_cmp rfl rfl rfl rfl (fun _ => ?_) (fun _ => ?_) | refine AC_cond rfl (fun _ => ?_) (fun _ => ?_))
            refine ⟨hlt, by rw [hnx, hen], (less_sub ⟨⟨_, rfl, .inl ⟨.refl _, rfl⟩⟩, ⟨_, rfl, .inl ⟨.refl _, rfl⟩⟩, ⟨_, rfl, .inl ⟨.refl _, rfl⟩⟩, ⟨_, rfl, see_eq ?_ rfl⟩, trivial⟩ ⟨⟨⟨_, rfl, .of_eq ?_⟩, rfl⟩, trivial⟩)⟩
            · exact hinc
            · exact hmp
          | false =>
            rw [hkb] at hkn hen
            have hb0 := hbad hen
            repeat' (first | exact absurd (by assumption) hk | refine WL_call 0 rfl hr rfl rfl rfl ?_ | refine WL_call 0 rfl hkn rfl rfl rfl ?_ | refine WL_m rfl (m_lookup2 hty hmapE hint rfl rfl rfl rfl rfl hwf (Nat.le_of_lt hml) (hlk _) rfl) ?_ | refine WL_p hty rfl rfl ?_ | refine WL_nil ?_ | refine AC_seq ?_ | refine AC_region ?_ | refine AC_block ?_ | refine AC_skip ?_ | refine AC_condT rfl ?_ | refine AC_condF rfl ?_ | refine AC_exit ?_ | refine AC_ret ?_ | refine WL_ung rfl rfl ?_ | refine WL_offT rfl rfl rfl ?_ | refine WL_offF rfl rfl rfl ?_ | refine WL_offU rfl rfl rfl ?_ | refine WL_m rfl (m_idxN hty rfl rfl rfl (by assumption) rfl) ?_ | refine ends_bool rfl ?_ | refine WL_cmp rfl rfl rfl rfl (fun _ => ?_) (fun _ => ?_) | refine AC_cond rfl (fun _ => ?_) (fun _ => ?_))
            exact ends_int rfl hb0
        | some b =>
          have hlk : ∀ z, Go.Aw.lookV (mapE (seenE (l.take i))) e.base z = .tup [aB b, .bool true] := fun z => by unfold Go.Aw.lookV mapE; rw [hse]; rfl
          obtain ⟨e2, hm2, hb2⟩ := seenE_mem _ hse
          have hes2 := size_le_sizesE (List.mem_of_mem_take hm2)
          have hes2' : e2.size = e2.typ.size + e2.body.size + e2.block.size := rfl
          rw [hb2] at hes2'
          have hsm := same_spec b e.block (by omega)
          have hen : entryB (seenE (l.take i)) e (i : Nat) = decide (b = e.block) := by unfold entryB freshB; rw [hrt, hse, decide_eq_false hk]; rfl
          by_cases hbe : b = e.block
          · rw [decide_eq_true hbe] at hsm hen
            repeat' (first | exact absurd (by assumption) hk | refine WL_call 0 rfl hr rfl rfl rfl ?_ | refine WL_call 0 rfl hsm rfl rfl rfl ?_ | refine WL_m rfl (m_lookup2 hty hmapE hint rfl rfl rfl rfl rfl hwf (Nat.le_of_lt hml) (hlk _) rfl) ?_ | refine WL_m rfl (m_mapUpdate hmapE hint rfl rfl rfl hwf rfl rfl hml) ?_ | refine WL_p hty rfl rfl ?_ | refine WL_nil ?_ | refine AC_seq ?_ | refine AC_region ?_ | refine AC_block ?_ | refine AC_skip ?_ | refine AC_condT rfl ?_ | refine AC_condF rfl ?_ | refine AC_exit ?_ | refine AC_ret ?_ | refine WL_ung rfl rfl ?_ | refine WL_offT rfl rfl rfl ?_ | refine WL_offF rfl rfl rfl ?_ | refine WL_offU rfl rfl rfl ?_ | refine WL_m rfl (m_idxN hty rfl rfl rfl (by assumption) rfl) ?_ | refine ends_bool rfl ?_ | refine WL_cmp rfl rfl rfl rfl (fun _ => ?_) (fun _ => ?_) | refine AC_cond rfl (fun _ => ?_) (fun _ => ?_))
            refine ⟨hlt, by rw [hnx, hen], (less_sub ⟨⟨_, rfl, .inl ⟨.refl _, rfl⟩⟩, ⟨_, rfl, .inl ⟨.refl _, rfl⟩⟩, ⟨_, rfl, .inl ⟨.refl _, rfl⟩⟩, ⟨_, rfl, see_eq ?_ rfl⟩, trivial⟩ ⟨⟨⟨_, rfl, .of_eq ?_⟩, rfl⟩, trivial⟩)⟩
            · exact hinc
            · exact hmp
          · rw [decide_eq_false hbe] at hsm hen
            have hb0 := hbad hen
            repeat' (first | exact absurd (by assumption) hk | refine WL_call 0 rfl hr rfl rfl rfl ?_ | refine WL_call 0 rfl hsm rfl rfl rfl ?_ | refine WL_m rfl (m_lookup2 hty hmapE hint rfl rfl rfl rfl rfl hwf (Nat.le_of_lt hml) (hlk _) rfl) ?_ | refine WL_p hty rfl rfl ?_ | refine WL_nil ?_ | refine AC_seq ?_ | refine AC_region ?_ | refine AC_block ?_ | refine AC_skip ?_ | refine AC_condT rfl ?_ | refine AC_condF rfl ?_ | refine AC_exit ?_ | refine AC_ret ?_ | refine WL_ung rfl rfl ?_ | refine WL_offT rfl rfl rfl ?_ | refine WL_offF rfl rfl rfl ?_ | refine WL_offU rfl rfl rfl ?_ | refine WL_m rfl (m_idxN hty rfl rfl rfl (by assumption) rfl) ?_ | refine ends_bool rfl ?_ | refine WL_cmp rfl rfl rfl rfl (fun _ => ?_) (fun _ => ?_) | refine AC_cond rfl (fun _ => ?_) (fun _ => ?_))
            exact ends_int rfl hb0
  · obtain rfl : i = l.length := by rw [rsE_length] at hc; omega
    rw [List.take_length] at hrow
    repeat' (first | refine WL_p hty rfl rfl ?_ | refine WL_nil ?_ | refine AC_seq ?_ | refine AC_region ?_ | refine AC_block ?_ | refine AC_skip ?_ | refine AC_condT rfl ?_ | refine AC_condF rfl ?_ | refine AC_exit ?_ | refine AC_ret ?_ | refine WL_ung rfl rfl ?_ | refine WL_offT rfl rfl rfl ?_ | refine WL_offF rfl rfl rfl ?_ | refine WL_offU rfl rfl rfl ?_ | refine WL_m rfl (m_idxN hty rfl rfl rfl (by assumption) rfl) ?_ | refine ends_bool rfl ?_ | refine WL_cmp rfl rfl rfl rfl (fun _ => ?_) (fun _ => ?_) | refine AC_cond rfl (fun _ => ?_) (fun _ => ?_))
    refine ends_int rfl ?_
    rw [he, if_pos hrow]

end Go.Proofs.YtoknnfhgoikpiaaGreat

/-
  How heavy a row is.
-/
namespace Go.Proofs.YtoknnfhgoikpiaaGreat
set_option linter.unusedSimpArgs false
set_option linter.unusedVariables false
open Go.Aw Go.RowKit
def tbHeavyE15_7 : List (Nat × List Nat) := [(0, []), (1, []), (2, [0, 1]), (3, [0, 1, 2]), (4, [0, 1, 2, 3]), (5, []), (6, []), (7, [5, 6]), (8, [5, 6, 7]), (9, [5, 6, 7, 8]), (10, [0, 1, 2, 3, 4, 5, 6, 7, 8, 9]), (11, [0, 1, 2, 3, 4, 5, 6, 7, 8, 9, 10]), (12, [0, 1, 2, 3, 4, 5, 6, 7, 8, 9, 10, 11]), (13, [0, 1, 2, 3, 4, 5, 6, 7, 8, 9, 10, 11, 12]), (14, [0, 1, 2, 3, 4, 5, 6, 7, 8, 9, 10, 11, 12]), (15, [0, 1, 2, 3, 4, 5, 6, 7, 8, 9, 10, 11, 12, 13, 14]), (16, [0, 1, 2, 3, 4, 5, 6, 7, 8, 9, 10, 11, 12, 13, 14, 15]), (17, [0, 1, 2, 3, 4, 5, 6, 7, 8, 9, 10, 11, 12, 13, 14, 15, 16]), (18, [0, 1, 2, 3, 4, 5, 6, 7, 8, 9, 10, 11, 12, 13, 14, 15, 16, 17]), (19, [0, 1, 2, 3, 4, 5, 6, 7, 8, 9, 10, 11, 12, 13, 14, 15, 16, 17, 18])]
def tbHeavyE15_9 : List (Nat × List Nat) := [(0, []), (1, []), (2, []), (3, [1, 2]), (4, [1, 2, 3]), (5, [1, 2, 3, 4]), (6, [1, 2, 3, 4, 5]), (7, [0, 1, 2, 3, 4, 5, 6]), (8, []), (9, []), (10, [8, 9]), (11, [8, 9, 10]), (12, [8, 9, 10, 11]), (13, [1, 2, 3, 4, 5, 6, 8, 9, 10, 11, 12]), (14, [0, 1, 2, 3, 4, 5, 6, 7, 8, 9, 10, 11, 12, 13]), (15, [0, 1, 2, 3, 4, 5, 6, 7, 8, 9, 10, 11, 12, 13, 14])]
attribute [local irreducible] WL AC WD WE MStep OkOp

/-! how heavy a row is -/
def sumE : List En → Nat
  | [] => 0
  | e :: l => e.typ.size + e.body.size + sumE l
theorem sumE_le : ∀ l : List En, sumE l ≤ sizesE l
  | [] => Nat.le_refl _
  | e :: l => by
    have := sumE_le l
    have h : e.size = e.typ.size + e.body.size + e.block.size := rfl
    simp only [sumE, sizesE]; omega
theorem sumE_append (l m : List En) : sumE (l ++ m) = sumE l + sumE m := by
  induction l with
  | nil => simp [sumE]
  | cons a l ih => simp only [List.cons_append, sumE, ih]; omega
theorem sumE_next {l : List En} {i : Nat} {e : En} (h : l[i]? = some e) : sumE (l.take (i + 1)) = sumE (l.take i) + (e.typ.size + e.body.size) := by
  rw [List.take_add_one, h, Option.toList_some, sumE_append]; simp [sumE]
theorem sumE_take (l : List En) (i : Nat) : sumE (l.take i) ≤ sumE l := by
  conv => rhs; rw [← List.take_append_drop i l]
  rw [sumE_append]; omega
def heavy1E (e : En) : Bool := heavyT [e.typ, e.body] || heavyB e.block
def heavyE (l : List En) : Bool := decide (220 < l.length) || (l.any heavy1E || decide (20000 < sumE l))

theorem heavyTT (a b : Tm) (h : sizes [a, b] ≤ 1048576) : FC Tryz.prog 16 [.lst 3 [cT a, cT b] true] (.bool (heavyT [a, b])) := by
  have := (heavy2_spec [a, b] h).args (xs := [.lst 3 (rsT [a, b]) true]) (.cons (.full _ _ _) .nil)
  rwa [rs2] at this

set_option maxHeartbeats 4000000 in
theorem heavyE_spec (l : List En) (hl : sizesE l ≤ 1048576) : FC Tryz.prog 15 [sE l] (.bool (heavyE l)) := by
  have hlen := len_le_sizesE l
  by_cases hb : 220 < l.length
  · have he : heavyE l = true := by unfold heavyE; rw [decide_eq_true hb]; rfl
    rw [he]
    refine FC_intro hty Tryz.func15 rfl rfl rfl fun w0 => ?_
    repeat' (first | (rename_i hc; exact absurd (show 220 < ((rsE l).length : Int) by rw [rsE_length]; omega) hc) | refine WL_p hty rfl rfl ?_ | refine WL_nil ?_ | refine AC_seq ?_ | refine AC_region ?_ | refine AC_block ?_ | refine AC_skip ?_ | refine AC_condT rfl ?_ | refine AC_condF rfl ?_ | refine AC_exit ?_ | refine AC_ret ?_ | refine ends_bool rfl ?_ | refine WL_cmp rfl rfl rfl rfl (fun _ => ?_) (fun _ => ?_) | refine AC_cond rfl (fun _ => ?_) (fun _ => ?_))
    all_goals rfl
  have he : heavyE l = (l.any heavy1E || decide (20000 < sumE l)) := by unfold heavyE; rw [decide_eq_false hb]; rfl
  rw [he]
  refine FC_intro hty Tryz.func15 rfl rfl rfl fun w0 => ?_
  repeat' (first | (rename_i hc; exact absurd hc (show ¬ 220 < ((rsE l).length : Int) by rw [rsE_length]; omega)) | refine WL_p hty rfl rfl ?_ | refine WL_nil ?_ | refine AC_seq ?_ | refine AC_region ?_ | refine AC_block ?_ | refine AC_skip ?_ | refine AC_condT rfl ?_ | refine AC_condF rfl ?_ | refine AC_exit ?_ | refine AC_ret ?_ | refine ends_bool rfl ?_ | refine WL_cmp rfl rfl rfl rfl (fun _ => ?_) (fun _ => ?_) | refine AC_cond rfl (fun _ => ?_) (fun _ => ?_))
  refine AC_for l.length (fun i => (l.take i).any heavy1E = false) (fun i => ⟨envOf [(0, sE l), (3, .int .i64 (sumE (l.take i) : Nat)), (4, .int .i64 (i : Nat))], bkOf []⟩)
    (less_sub ⟨⟨_, rfl, .inl ⟨.refl _, rfl⟩⟩, ⟨_, rfl, .inl ⟨.refl _, rfl⟩⟩, ⟨_, rfl, .inl ⟨.refl _, rfl⟩⟩, trivial⟩ trivial) rfl ?_
  intro i hi hI
  repeat' (first | refine WL_p hty rfl rfl ?_ | refine WL_nil ?_ | refine AC_seq ?_ | refine AC_region ?_ | refine AC_block ?_ | refine AC_skip ?_ | refine AC_condT rfl ?_ | refine AC_condF rfl ?_ | refine AC_exit ?_ | refine AC_ret ?_ | refine ends_bool rfl ?_)
  refine WL_cmp rfl rfl rfl rfl (fun hc => ?_) (fun hc => ?_)
  · have hlt : i < l.length := by rw [rsE_length] at hc; omega
    obtain ⟨e, he', hmem⟩ := get_of_lt hlt
    have re := rsE_get he'
    have hes := size_le_sizesE hmem
    have hes' : e.size = e.typ.size + e.body.size + e.block.size := rfl
    have h1 := heavyTT e.typ e.body (by simp only [sizes]; omega)
    have h2 := heavyB_spec e.block (by omega)
    have h3 := size_spec e.typ (by omega)
    have h4 := size_spec e.body (by omega)
    have hat := any_take_succ (p := heavy1E) he'
    have hs1 := sumE_next he'
    have hs2 := sumE_take l (i + 1)
    have hs3 := sumE_le l
    have w1 : IntKind.i64.wrap ((sumE (l.take i) : Nat) + (e.typ.size : Nat) : Int) = (sumE (l.take i) : Nat) + (e.typ.size : Nat) := wrap_ok (by omega) (by omega)
    have w2 : IntKind.i64.wrap (IntKind.i64.wrap ((sumE (l.take i) : Nat) + (e.typ.size : Nat) : Int) + (e.body.size : Nat)) = (sumE (l.take (i + 1)) : Nat) := by
      rw [w1, hs1]
      refine (wrap_ok ?_ ?_).trans ?_ <;> omega
    repeat' (first | (refine AC_reg (id := 7) ?_; refine AC_drawnE (id := 7) tbHeavyE15_7 rfl (by kernel_rfl) ?_) | (refine AC_reg (id := 9) ?_; refine AC_less (less_sub (l := [(0, _), (3, _), (4, _)]) (bl := []) ⟨⟨_, rfl, .inl ⟨.refl _, rfl⟩⟩, ⟨_, rfl, .inl ⟨.refl _, rfl⟩⟩, ⟨_, rfl, .inl ⟨.refl _, rfl⟩⟩, trivial⟩ trivial) ?_; refine AC_drawnE (id := 9) tbHeavyE15_9 rfl (by kernel_rfl) ?_) | refine WE_callB rfl h1 rfl (fun _ => ?_) (fun _ => ?_) | refine WE_callB rfl h2 rfl (fun _ => ?_) (fun _ => ?_) | refine WE_call 0 rfl h3 rfl rfl rfl ?_ | refine WE_call 0 rfl h4 rfl rfl rfl ?_ | refine WE_cons (.inl ⟨rfl, stepE_ok hty rfl rfl⟩) ?_ | refine WE_cons (.inl ⟨rfl, m_idxN hty rfl rfl rfl (by assumption) rfl⟩) ?_ | refine WE_ung rfl rfl ?_ | refine WE_offT rfl rfl rfl ?_ | refine WE_offF rfl rfl rfl ?_ | refine WE_offU rfl rfl rfl ?_ | refine WE_nil ⟨by kernel_rfl, ?_⟩ | refine WL_p hty rfl rfl ?_ | refine WL_nil ?_ | refine AC_seq ?_ | refine AC_region ?_ | refine AC_block ?_ | refine AC_skip ?_ | refine AC_condT rfl ?_ | refine AC_condF rfl ?_ | refine AC_exit ?_ | refine AC_ret ?_ | refine ends_bool rfl ?_ | refine WL_cmp rfl rfl rfl rfl (fun _ => ?_) (fun _ => ?_) | refine AC_cond rfl (fun _ => ?_) (fun _ => ?_) | refine WE_cmp rfl rfl rfl rfl (fun _ => ?_) (fun _ => ?_))
    all_goals first
      | have h5 : l.any heavy1E = true := any_of_get he' (by simp_all [heavy1E]; done)
        simp [h5]
        done
      | refine ⟨hlt, ?_, (less_sub ⟨⟨_, rfl, .inl ⟨.refl _, rfl⟩⟩, ⟨_, rfl, see_eq ?_ rfl⟩, ⟨_, rfl, see_eq ?_ rfl⟩, trivial⟩ trivial)⟩
        · simp_all [heavy1E]
        · exact congrArg (AV.int .i64) w2
        · exact congrArg (AV.int .i64) ((wrap_ok (by omega) (by omega)).trans (by omega))
  · obtain rfl : i = l.length := by rw [rsE_length] at hc; omega
    rw [List.take_length] at hI
    repeat' (first | refine WL_p hty rfl rfl ?_ | refine WL_nil ?_ | refine AC_seq ?_ | refine AC_region ?_ | refine AC_block ?_ | refine AC_skip ?_ | refine AC_condT rfl ?_ | refine AC_condF rfl ?_ | refine AC_exit ?_ | refine AC_ret ?_ | refine ends_bool rfl ?_ | refine WL_cmp rfl rfl rfl rfl (fun _ => ?_) (fun _ => ?_) | refine AC_cond rfl (fun _ => ?_) (fun _ => ?_))
    all_goals (rw [List.take_length] at *; simp [hI]; omega)
end Go.Proofs.YtoknnfhgoikpiaaGreat
