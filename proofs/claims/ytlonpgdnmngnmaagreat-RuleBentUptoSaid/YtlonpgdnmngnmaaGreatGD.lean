/-
  DERIVED: THE SHELF's CONTRACTS AT THIS DUMP, IN PLAIN WORDS (tools/lay-plain.mjs out of 'TryzSrt.lean', which tools/lay-shelf.mjs wrote): THE SAME DECLARATIONS UNDER THE SAME NAMES: 'import', 'namespace', 'open', 'def', 'theorem' AND NOTHING ELSE: no command of the shelf's: FOR A HAND-IN. Each laying: the table of numbers ('.._ren') and one theorem, a field a fact of the dump's own or the kernel's comparison; each contract: ONE APPLICATION.; What the library's functions that tell a map's keys, and sort them, do: by the kit's contracts, laid at this program.; The constants that a term names; the greatest of numbers.; The program's terms: in scope, alike; rows that are alike.; All terms of arguments; the greatest of numbers.; The greatest constant that a block names.; What is more than is played, of blocks.; What an argument of the program's data reads as stands for its abstract value, of a size within its bulk.; What a row of entries reads as.
-/
import Derived.Shelf.SlIterI.Nil
import Derived.Shelf.SortM.Plain
import Derived.Shelf.SortM.SortNone
import Derived.Ground.GgzProg
import Derived.Ground.SlgmProg
import Derived.Test.YtlonpgdnmngnmaaGreatProg
import Derived.Test.YtlonpgdnmngnmaaGreatGC
import Derived.Test.YtlonpgdnmngnmaaGreatGB
import Derived.Test.YtlonpgdnmngnmaaGreatRows

/-
  DERIVED: THE SHELF's CONTRACTS AT THIS DUMP, IN PLAIN WORDS (tools/lay-plain.mjs out of 'TryzSrt.lean', which tools/lay-shelf.mjs wrote): THE SAME DECLARATIONS UNDER THE SAME NAMES: 'import', 'namespace', 'open', 'def', 'theorem' AND NOTHING ELSE: no command of the shelf's: FOR A HAND-IN. Each laying: the table of numbers ('.._ren') and one theorem, a field a fact of the dump's own or the kernel's comparison; each contract: ONE APPLICATION.
-/
namespace Go.Proofs
open Go.Shelf
def YtlonpgdnmngnmaaGreat.keysA_ren : Go.Shelf.Ren := ⟨fun | 7 => 177 | 10 => 190 | n => n, fun | 23 => 171 | 26 => 3 | 3 => 4 | 28 => 175 | 0 => 0 | 27 => 174 | 33 => 102 | 4 => 4 | n => n, fun | n => n⟩
theorem YtlonpgdnmngnmaaGreat.keysA : Go.Proofs.SlLaysZI.n7 Tryz.prog YtlonpgdnmngnmaaGreat.keysA_ren := {
  mixed := by kernel_rfl
  f7 := ⟨Tryz.f177.name, by decide, Tryz.func177.trans (congrArg some (by kernel_rfl))⟩
  f10 := ⟨Tryz.f190.name, by decide, Tryz.func190.trans (congrArg some (by kernel_rfl))⟩
  t0 := Tryz.underlying0
  a0 := Tryz.isAgg0
  z0 := Tryz.sizeOf0
  v0 := Tryz.zeroValue0
  t4 := Tryz.underlying4
  a4 := Tryz.isAgg4
  z4 := Tryz.sizeOf4
  v4 := Tryz.zeroValue4
  t23 := Tryz.underlying171
  a23 := Tryz.isAgg171
  z23 := Tryz.sizeOf171
  v23 := Tryz.zeroValue171
  t26 := Tryz.underlying3
  a26 := Tryz.isAgg3
  z26 := Tryz.sizeOf3
  v26 := Tryz.zeroValue3
  t27 := Tryz.underlying174
  a27 := Tryz.isAgg174
  z27 := Tryz.sizeOf174
  v27 := Tryz.zeroValue174
  t28 := Tryz.underlying175
  a28 := Tryz.isAgg175
  z28 := Tryz.sizeOf175
  v28 := Tryz.zeroValue175
  t33 := Tryz.underlying102
  a33 := Tryz.isAgg102
  z33 := Tryz.sizeOf102
  v33 := Tryz.zeroValue102 }
def YtlonpgdnmngnmaaGreat.sortedA_ren : Go.Shelf.Ren := ⟨fun | 6 => 176 | 8 => 188 | 9 => 189 | 11 => 193 | 13 => 195 | 12 => 194 | 23 => 206 | 24 => 207 | 14 => 197 | 15 => 198 | 16 => 199 | 17 => 200 | 18 => 201 | 19 => 202 | 20 => 203 | 21 => 204 | 22 => 205 | 25 => 208 | 26 => 209 | 27 => 210 | 28 => 211 | 29 => 212 | 30 => 213 | 31 => 214 | n => n, fun | 26 => 3 | 28 => 175 | 24 => 130 | 0 => 0 | 3 => 3 | 37 => 37 | 48 => 200 | 50 => 202 | 4 => 4 | 40 => 193 | 39 => 192 | 45 => 169 | 5 => 5 | 9 => 9 | 51 => 203 | 55 => 207 | 57 => 209 | 58 => 164 | 33 => 102 | n => n, fun | n => n⟩
theorem YtlonpgdnmngnmaaGreat.sortedA : Go.Proofs.SlLaysZI.n6 Tryz.prog YtlonpgdnmngnmaaGreat.sortedA_ren := {
  mixed := by kernel_rfl
  f6 := ⟨Tryz.f176.name, by decide, Tryz.func176.trans (congrArg some (by kernel_rfl))⟩
  f8 := ⟨Tryz.f188.name, by decide, Tryz.func188.trans (congrArg some (by kernel_rfl))⟩
  f11 := ⟨Tryz.f193.name, by decide, Tryz.func193.trans (congrArg some (by kernel_rfl))⟩
  t0 := Tryz.underlying0
  a0 := Tryz.isAgg0
  z0 := Tryz.sizeOf0
  v0 := Tryz.zeroValue0
  t24 := Tryz.underlying130
  a24 := Tryz.isAgg130
  z24 := Tryz.sizeOf130
  v24 := Tryz.zeroValue130
  t26 := Tryz.underlying3
  a26 := Tryz.isAgg3
  z26 := Tryz.sizeOf3
  v26 := Tryz.zeroValue3
  t28 := Tryz.underlying175
  a28 := Tryz.isAgg175
  z28 := Tryz.sizeOf175
  v28 := Tryz.zeroValue175
  i26 := by kernel_rfl }
def YtlonpgdnmngnmaaGreat.sortA_ren : Go.Shelf.Ren := ⟨fun | 5 => 189 | 8 => 195 | 7 => 194 | 19 => 206 | 20 => 207 | 10 => 197 | 11 => 198 | 12 => 199 | 13 => 200 | 14 => 201 | 15 => 202 | 16 => 203 | 17 => 204 | 18 => 205 | 30 => 208 | 31 => 209 | 32 => 210 | 33 => 211 | 34 => 212 | 35 => 213 | 40 => 214 | n => n, fun | 23 => 130 | 25 => 3 | 3 => 3 | 32 => 37 | 22 => 130 | 0 => 0 | 44 => 200 | 46 => 202 | 4 => 4 | 36 => 193 | 35 => 192 | 41 => 169 | 5 => 5 | 9 => 9 | 53 => 203 | 57 => 207 | 63 => 209 | 64 => 164 | n => n, fun | n => n⟩
theorem YtlonpgdnmngnmaaGreat.sortA : Go.Proofs.SlLaysM.n5 Tryz.prog YtlonpgdnmngnmaaGreat.sortA_ren := {
  mixed := by kernel_rfl
  f5 := ⟨Tryz.f189.name, by decide, Tryz.func189.trans (congrArg some (by kernel_rfl))⟩
  f7 := ⟨Tryz.f194.name, by decide, Tryz.func194.trans (congrArg some (by kernel_rfl))⟩
  f8 := Tryz.func195.trans (congrArg some (by kernel_rfl))
  f10 := ⟨Tryz.f197.name, by decide, Tryz.func197.trans (congrArg some (by kernel_rfl))⟩
  f11 := ⟨Tryz.f198.name, by decide, Tryz.func198.trans (congrArg some (by kernel_rfl))⟩
  f12 := ⟨Tryz.f199.name, by decide, Tryz.func199.trans (congrArg some (by kernel_rfl))⟩
  f13 := ⟨Tryz.f200.name, by decide, Tryz.func200.trans (congrArg some (by kernel_rfl))⟩
  f14 := ⟨Tryz.f201.name, by decide, Tryz.func201.trans (congrArg some (by kernel_rfl))⟩
  f15 := ⟨Tryz.f202.name, by decide, Tryz.func202.trans (congrArg some (by kernel_rfl))⟩
  f16 := ⟨Tryz.f203.name, by decide, Tryz.func203.trans (congrArg some (by kernel_rfl))⟩
  f17 := ⟨Tryz.f204.name, by decide, Tryz.func204.trans (congrArg some (by kernel_rfl))⟩
  f18 := ⟨Tryz.f205.name, by decide, Tryz.func205.trans (congrArg some (by kernel_rfl))⟩
  f19 := Tryz.func206.trans (congrArg some (by kernel_rfl))
  f20 := Tryz.func207.trans (congrArg some (by kernel_rfl))
  f30 := ⟨Tryz.f208.name, by decide, Tryz.func208.trans (congrArg some (by kernel_rfl))⟩
  f31 := Tryz.func209.trans (congrArg some (by kernel_rfl))
  f32 := Tryz.func210.trans (congrArg some (by kernel_rfl))
  f33 := ⟨Tryz.f211.name, by decide, Tryz.func211.trans (congrArg some (by kernel_rfl))⟩
  f34 := ⟨Tryz.f212.name, by decide, Tryz.func212.trans (congrArg some (by kernel_rfl))⟩
  f35 := ⟨Tryz.f213.name, by decide, Tryz.func213.trans (congrArg some (by kernel_rfl))⟩
  f40 := ⟨Tryz.f214.name, by decide, Tryz.func214.trans (congrArg some (by kernel_rfl))⟩
  t0 := Tryz.underlying0
  a0 := Tryz.isAgg0
  z0 := Tryz.sizeOf0
  v0 := Tryz.zeroValue0
  t3 := Tryz.underlying3
  a3 := Tryz.isAgg3
  z3 := Tryz.sizeOf3
  v3 := Tryz.zeroValue3
  t4 := Tryz.underlying4
  a4 := Tryz.isAgg4
  z4 := Tryz.sizeOf4
  v4 := Tryz.zeroValue4
  t5 := Tryz.underlying5
  a5 := Tryz.isAgg5
  z5 := Tryz.sizeOf5
  v5 := Tryz.zeroValue5
  t9 := Tryz.underlying9
  a9 := Tryz.isAgg9
  z9 := Tryz.sizeOf9
  v9 := Tryz.zeroValue9
  t22 := Tryz.underlying130
  a22 := Tryz.isAgg130
  z22 := Tryz.sizeOf130
  v22 := Tryz.zeroValue130
  t23 := Tryz.underlying130
  a23 := Tryz.isAgg130
  z23 := Tryz.sizeOf130
  v23 := Tryz.zeroValue130
  t25 := Tryz.underlying3
  a25 := Tryz.isAgg3
  z25 := Tryz.sizeOf3
  v25 := Tryz.zeroValue3
  t32 := Tryz.underlying37
  a32 := Tryz.isAgg37
  z32 := Tryz.sizeOf37
  v32 := Tryz.zeroValue37
  t35 := Tryz.underlying192
  a35 := Tryz.isAgg192
  z35 := Tryz.sizeOf192
  v35 := Tryz.zeroValue192
  t36 := Tryz.underlying193
  a36 := Tryz.isAgg193
  z36 := Tryz.sizeOf193
  v36 := Tryz.zeroValue193
  t41 := Tryz.underlying169
  a41 := Tryz.isAgg169
  z41 := Tryz.sizeOf169
  v41 := Tryz.zeroValue169
  t44 := Tryz.underlying200
  a44 := Tryz.isAgg200
  z44 := Tryz.sizeOf200
  v44 := Tryz.zeroValue200
  t46 := Tryz.underlying202
  a46 := Tryz.isAgg202
  z46 := Tryz.sizeOf202
  v46 := Tryz.zeroValue202
  t53 := Tryz.underlying203
  a53 := Tryz.isAgg203
  z53 := Tryz.sizeOf203
  v53 := Tryz.zeroValue203
  t57 := Tryz.underlying207
  a57 := Tryz.isAgg207
  z57 := Tryz.sizeOf207
  v57 := Tryz.zeroValue207
  t63 := Tryz.underlying209
  a63 := Tryz.isAgg209
  z63 := Tryz.sizeOf209
  v63 := Tryz.zeroValue209
  t64 := Tryz.underlying164
  a64 := Tryz.isAgg164
  z64 := Tryz.sizeOf164
  v64 := Tryz.zeroValue164 }
end Go.Proofs

/-
  What the library's functions that tell a map's keys, and sort them, do: by the kit's contracts, laid at this program.
-/
namespace Go.Proofs.YtlonpgdnmngnmaaGreat
set_option linter.unusedSimpArgs false
set_option linter.unusedVariables false
open Go.Aw Go.RowKit Go.Maps Go.Sort Go.Shelf

theorem sorts (m : Nat) : AnyZI.SortsIn Tryz.prog sortedA_ren Fence.wide m :=
  ⟨fun blk off cap ss W hH hblk hsz => callsIn_wide.2 (AnyM.slices_Sort_int sortA blk off cap ss W hH hblk hsz),
   fun p cap W => callsIn_wide.2 (AnyM.slices_Sort_int_none sortA p cap W)⟩

theorem sortedOf : SortedOf Tryz.prog 177 176 190 3 3 171 where
  keys mb w := (callsIn_wide (n := 5)).1 (AnyZI.keys_in keysA Fence.wide 5 trivial rfl mb w)
  sorted b nn Bm D0 w hown hm hBm hmax hbytes := by
    have hseq : SeqGives Fence.wide 2 Tryz.prog 190 #[.pointer (some ⟨Bm, 0, none⟩)] encZ (fun ss => ss.Perm (intKeys D0)) (Maps.size D0) w :=
      AnyZI.keys_gives (ρ := keysA_ren) { keysA with } Fence.wide _ trivial rfl (by omega) Bm b nn D0 _ hBm hm hown
    have cS := AnyZI.sorted_in sortedA Fence.wide 5 trivial trivial trivial trivial rfl (by omega) (sorts _) (enters_of Tryz.func189 (by kernel_rfl) rfl) 190 #[.pointer (some ⟨Bm, 0, none⟩)] trivial (enters_of Tryz.func190 (by kernel_rfl) rfl) _ _ hmax hbytes _ hseq
    exact (callsIn_wide (n := 5)).1 cS
  fnK := ⟨_, Tryz.func177, rfl, rfl⟩
  fnS := ⟨_, Tryz.func176, rfl, rfl⟩

end Go.Proofs.YtlonpgdnmngnmaaGreat

/-
  The constants that a term names; the greatest of numbers.
-/
namespace Go.Proofs.YtlonpgdnmngnmaaGreat
set_option linter.unusedSimpArgs false
set_option linter.unusedVariables false
open Go.Aw Go.RowKit
attribute [local irreducible] WL AC WD WE MStep OkOp

mutual
def conT : Tm → (Int → Option AV) → Int → Option AV
  | .mk k n l, f => conTs l (if k = 3 then putF f n (.bool true) else f)
def conTs : List Tm → (Int → Option AV) → Int → Option AV
  | [], f => f
  | t :: l, f => conTs l (conT t f)
end
mutual
def cntT : Tm → Nat
  | .mk k _ l => (if k = 3 then 1 else 0) + cntTs l
def cntTs : List Tm → Nat
  | [] => 0
  | t :: l => cntT t + cntTs l
end
theorem conT_eq (t : Tm) (f : Int → Option AV) : conT t f = conTs t.kids (if t.kind = 3 then putF f t.num (.bool true) else f) := by cases t; rw [conT]; rfl
theorem cntT_eq (t : Tm) : cntT t = (if t.kind = 3 then 1 else 0) + cntTs t.kids := by cases t; rw [cntT]; rfl
theorem conTs_snoc (t : Tm) : ∀ (l : List Tm) (f : Int → Option AV), conTs (l ++ [t]) f = conT t (conTs l f)
  | [], f => by simp [conTs]
  | u :: l, f => by simp only [List.cons_append, conTs, conTs_snoc t l]
theorem cntTs_snoc (t : Tm) : ∀ (l : List Tm), cntTs (l ++ [t]) = cntTs l + cntT t
  | [] => by simp [cntTs]
  | u :: l => by simp only [List.cons_append, cntTs, cntTs_snoc t l]; omega
theorem conTs_next {l : List Tm} {i : Nat} {t : Tm} (h : l[i]? = some t) (f : Int → Option AV) : conTs (l.take (i + 1)) f = conT t (conTs (l.take i) f) := by
  rw [List.take_add_one, h, Option.toList_some, conTs_snoc]
theorem cntTs_next {l : List Tm} {i : Nat} {t : Tm} (h : l[i]? = some t) : cntTs (l.take (i + 1)) = cntTs (l.take i) + cntT t := by
  rw [List.take_add_one, h, Option.toList_some, cntTs_snoc]
mutual
theorem cntT_le : ∀ t : Tm, cntT t ≤ t.size
  | .mk k _ l => by
    have := cntTs_le l
    rw [cntT, Tm.size_eq]
    show _ ≤ 1 + sizes l
    split <;> omega
theorem cntTs_le : ∀ l : List Tm, cntTs l ≤ sizes l
  | [] => Nat.le_refl _
  | t :: l => by
    have := cntT_le t
    have := cntTs_le l
    simp only [cntTs, sizes]; omega
end
theorem cntTs_take (l : List Tm) (i : Nat) : cntTs (l.take i) ≤ cntTs l := by
  induction l generalizing i with
  | nil => simp
  | cons t l ih => cases i with
    | zero => simp [cntTs]
    | succ i => have := ih i; simp only [List.take_succ_cons, cntTs]; omega

theorem cntTs_room : ∀ {l : List Tm} {i : Nat} {k : Tm}, l[i]? = some k → cntTs (l.take i) + k.size ≤ sizes l
  | [], i, k, h => by simp at h
  | t :: l, 0, k, h => by
    obtain rfl := Option.some.inj (show some t = some k from h)
    simp [cntTs, sizes]
  | t :: l, i + 1, k, h => by
    have h1 := cntTs_room (l := l) (i := i) (k := k) (by simpa using h)
    have h2 := cntT_le t
    simp only [List.take_succ_cons, cntTs, sizes]; omega

theorem hmapB : Tryz.prog.underlying 171 = some (.map 3 4) := by kernel_rfl
theorem hint : Tryz.prog.underlying 3 = some (.int .i64) := by kernel_rfl
theorem wf_small {i : Int} (h : 0 ≤ i ∧ i ≤ 65535) : (Lit.int .i64 i).wf = true := by
  simp only [Lit.wf, Bool.and_eq_true, decide_eq_true_eq]
  exact ⟨Int.le_trans (by decide) h.1, Int.le_trans h.2 (by decide)⟩

mutual
/-- Constants' numbers are small. -/
def okN : Tm → Bool
  | .mk k n l => (decide (k ≠ 3) || inR n 0 65535) && okNs l
def okNs : List Tm → Bool
  | [] => true
  | t :: l => okN t && okNs l
end
theorem okNs_all (l : List Tm) : okNs l = l.all okN := by
  induction l with
  | nil => rfl
  | cons t l ih => simp [okNs, ih]
theorem okN_eq (t : Tm) : okN t = ((decide (t.kind ≠ 3) || inR t.num 0 65535) && t.kids.all okN) := by cases t; rw [okN, okNs_all]; rfl
theorem okN_kids {t k : Tm} (h : okN t = true) (hk : k ∈ t.kids) : okN k = true := by
  rw [okN_eq, Bool.and_eq_true] at h
  exact List.all_eq_true.1 h.2 k hk
theorem okN_num {t : Tm} (h : okN t = true) (hk : t.kind = 3) : 0 ≤ t.num ∧ t.num ≤ 65535 := by
  rw [okN_eq, Bool.and_eq_true] at h
  simp only [hk, inR, ne_eq, not_true_eq_false, decide_false, Bool.false_or, Bool.and_eq_true, decide_eq_true_eq] at h
  exact h.1
theorem formedT_nums {t : Tm} (h : formedT t = true) : 0 ≤ t.num ∧ t.num ≤ 65535 := by
  rw [formedT_eq] at h
  simp only [Bool.and_eq_true, Bool.or_eq_true, decide_eq_true_eq, inR] at h
  obtain ⟨⟨_, h1, h2⟩, _⟩ := h
  rcases h1 with h1 | h1
  · rcases h2 with h2 | h2
    · exact absurd h2 h1
    · omega
  · exact h1
mutual
theorem formed_okN : ∀ t : Tm, formedT t = true → okN t = true
  | .mk k n l, h => by
    have h1 := formedT_nums h
    rw [formedT, Bool.and_eq_true] at h
    rw [okN, formed_okNs l h.2]
    simp only [Tm.num] at h1
    simp [inR, h1]
theorem formed_okNs : ∀ l : List Tm, formedTs l = true → okNs l = true
  | [], _ => rfl
  | t :: l, h => by
    rw [formedTs, Bool.and_eq_true] at h
    rw [okNs, formed_okN t h.1, formed_okNs l h.2]; rfl
end

set_option maxHeartbeats 4000000 in
theorem consts_all : ∀ n, n ≤ 1048576 → ∀ (t : Tm) (m : Nat) (f : Int → Option AV), t.size ≤ n → okN t = true → m + t.size ≤ 2097152 →
    MC Tryz.prog 175 [aT t, .mp 0] (.mp none m f) (.tup []) (.mp none (m + cntT t) (conT t f)) := by
  intro n
  induction n with
  | zero => intro hn t m f ht; have := t.size_pos; omega
  | succ n ih =>
  intro hn t m f ht hfm hm
  have ih := ih (by omega)
  have hs := t.size_eq
  have hlen := len_le_sizes t.kids
  have hml : m < maxLen := Nat.lt_of_le_of_lt (show m ≤ 2097152 by omega) (by decide)
  have hce := conT_eq t f
  have hne := cntT_eq t
  refine MC_intro hty Tryz.func175 rfl rfl rfl rfl rfl fun w0 B => ?_
  obtain ⟨f0, hf0⟩ : ∃ f0, f0 = if t.kind = 3 then putF f t.num (.bool true) else f := ⟨_, rfl⟩
  obtain ⟨m0, hm0⟩ : ∃ m0 : Nat, m0 = if t.kind = 3 then 1 else 0 := ⟨_, rfl⟩
  have hm1 : m0 ≤ 1 := by rw [hm0]; split <;> omega
  rw [← hf0] at hce
  rw [← hm0] at hne
  repeat' (first | refine WL_m rfl (m_mapUpdate hmapB hint rfl rfl rfl (wf_small (okN_num hfm (by assumption))) rfl rfl hml) ?_ | refine WL_p hty rfl rfl ?_ | refine WL_nil ?_ | refine AC_seq ?_ | refine AC_region ?_ | refine AC_block ?_ | refine AC_skip ?_ | refine AC_condT rfl ?_ | refine AC_condF rfl ?_ | refine AC_exit ?_ | refine AC_ret ?_ | refine WL_m rfl (m_idxN hty rfl rfl rfl (by assumption) rfl) ?_ | refine ends_bool rfl ?_ | refine WL_cmp rfl rfl rfl rfl (fun _ => ?_) (fun _ => ?_) | refine AC_cond rfl (fun _ => ?_) (fun _ => ?_))
  all_goals
    have hacc : ∀ (x : Nat) (y : Int → Option AV), x = m + m0 → y = f0 → AB.mp (some B) x y = AB.mp (some B) (m + m0 + cntTs (t.kids.take 0)) (conTs (t.kids.take 0) f0) := fun x y hx hy => by rw [hx, hy]; rfl
    refine AC_for t.kids.length (fun _ => True) (fun i => ⟨envOf [(1, .mp 0), (13, sT t.kids), (14, .int .i64 ((rsT t.kids).length : Nat)), (15, .int .i64 (i : Nat))], bkOf [(0, .mp (some B) (m + m0 + cntTs (t.kids.take i)) (conTs (t.kids.take i) f0))]⟩)
      (less_sub ⟨⟨_, rfl, .inl ⟨.refl _, rfl⟩⟩, ⟨_, rfl, .inl ⟨.refl _, rfl⟩⟩, ⟨_, rfl, .inl ⟨.refl _, rfl⟩⟩, ⟨_, rfl, .inl ⟨.refl _, rfl⟩⟩, trivial⟩ ⟨⟨⟨_, rfl, .of_eq ?_⟩, rfl⟩, trivial⟩) trivial ?_
    · refine hacc _ _ ?_ ?_
      · rw [hm0]; simp [*]
      · rw [hf0]; simp [*]
    clear hacc
    intro i hi _
    repeat' (first | refine WL_p hty rfl rfl ?_ | refine WL_nil ?_ | refine AC_seq ?_ | refine AC_region ?_ | refine AC_block ?_ | refine AC_skip ?_ | refine AC_condT rfl ?_ | refine AC_condF rfl ?_ | refine AC_exit ?_ | refine AC_ret ?_ | refine WL_m rfl (m_idxN hty rfl rfl rfl (by assumption) rfl) ?_ | refine ends_bool rfl ?_)
    refine WL_cmp rfl rfl rfl rfl (fun hc => ?_) (fun hc => ?_)
    · have hlt : i < t.kids.length := by rw [rsT_length] at hc; omega
      obtain ⟨k, hk, hmem⟩ := get_of_lt hlt
      have hks := size_le_sizes hmem
      have rk := rsT_get hk
      have hct := cntTs_le t.kids
      have htk := cntTs_take t.kids i
      have htk1 := cntTs_take t.kids (i + 1)
      have hnx := cntTs_next hk
      have hkc := ih k (m + m0 + cntTs (t.kids.take i)) (conTs (t.kids.take i) f0) (by omega) (okN_kids hfm hmem) (by have := cntTs_room hk; omega)
      rw [← conTs_next hk] at hkc
      repeat' (first | refine WL_m rfl (m_callM 0 rfl rfl rfl hkc rfl rfl) ?_ | refine WL_p hty rfl rfl ?_ | refine WL_nil ?_ | refine AC_seq ?_ | refine AC_region ?_ | refine AC_block ?_ | refine AC_skip ?_ | refine AC_condT rfl ?_ | refine AC_condF rfl ?_ | refine AC_exit ?_ | refine AC_ret ?_ | refine WL_m rfl (m_idxN hty rfl rfl rfl (by assumption) rfl) ?_ | refine ends_bool rfl ?_ | refine WL_cmp rfl rfl rfl rfl (fun _ => ?_) (fun _ => ?_) | refine AC_cond rfl (fun _ => ?_) (fun _ => ?_))
      refine ⟨hlt, trivial, (less_sub ⟨⟨_, rfl, .inl ⟨.refl _, rfl⟩⟩, ⟨_, rfl, .inl ⟨.refl _, rfl⟩⟩, ⟨_, rfl, .inl ⟨.refl _, rfl⟩⟩, ⟨_, rfl, see_eq ?_ rfl⟩, trivial⟩ ⟨⟨⟨_, rfl, .of_eq ?_⟩, rfl⟩, trivial⟩)⟩
      · exact congrArg (AV.int .i64) ((wrap_ok (by omega) (by omega)).trans (by omega))
      · refine congrArg (fun x => AB.mp (some B) x (conTs (t.kids.take (i + 1)) f0)) ?_
        omega
    · obtain rfl : i = t.kids.length := by rw [rsT_length] at hc; omega
      repeat' (first | refine WL_p hty rfl rfl ?_ | refine WL_nil ?_ | refine AC_seq ?_ | refine AC_region ?_ | refine AC_block ?_ | refine AC_skip ?_ | refine AC_condT rfl ?_ | refine AC_condF rfl ?_ | refine AC_exit ?_ | refine AC_ret ?_ | refine WL_m rfl (m_idxN hty rfl rfl rfl (by assumption) rfl) ?_ | refine ends_bool rfl ?_ | refine WL_cmp rfl rfl rfl rfl (fun _ => ?_) (fun _ => ?_) | refine AC_cond rfl (fun _ => ?_) (fun _ => ?_))
      refine endsM_end 0 rfl rfl rfl rfl rfl rfl (.of_eq ?_)
      rw [List.take_length, hce, hne, ← Nat.add_assoc]

end Go.Proofs.YtlonpgdnmngnmaaGreat

/-
  The program's terms: in scope, alike; rows that are alike.
-/
namespace Go.Proofs.YtlonpgdnmngnmaaGreat
set_option linter.unusedSimpArgs false
set_option linter.unusedVariables false
open Go.Aw Go.RowKit
def tbScope46_11 : List (Nat × List Nat) := [(0, []), (1, []), (2, []), (3, [2]), (4, []), (5, [2, 3, 4]), (6, [1, 2, 3, 4, 5]), (7, []), (8, [0, 1, 2, 3, 4, 5, 6, 7]), (9, [0, 1, 2, 3, 4, 5, 6, 7, 8])]
attribute [local irreducible] WL AC WD WE MStep OkOp

theorem hbool : isBoolT Tryz.prog 4 = true := by kernel_rfl
attribute [local irreducible] isBoolT

theorem tnone_spec (t : Tm) : FC Tryz.prog 81 [aT t] (.bool (decide (t = zT))) := by
  refine FC_intro hty Tryz.func81 rfl rfl rfl fun w0 => ?_
  repeat' (first | refine WL_p hty rfl rfl ?_ | refine WL_nil ?_ | refine AC_seq ?_ | refine AC_region ?_ | refine AC_skip ?_ | refine AC_ret ?_ | refine WL_ung rfl rfl ?_ | refine WL_offT rfl rfl rfl ?_ | refine WL_offF rfl rfl rfl ?_ | refine WL_offU rfl rfl rfl ?_ | refine ends_bool rfl ?_ | refine WL_cmp rfl rfl rfl rfl (fun _ => ?_) (fun _ => ?_))
  · rename_i h1 h2 h3
    rw [rsT_length] at h3
    exact (decide_eq_true (Tm.ext h1 h2 (List.length_eq_zero_iff.1 (by omega)))).symm
  · rename_i h3
    rw [rsT_length] at h3
    exact (decide_eq_false fun h => h3 (by rw [h]; rfl)).symm
  · rename_i h3
    exact (decide_eq_false fun h => h3 (by rw [h]; rfl)).symm
  · rename_i h3
    exact (decide_eq_false fun h => h3 (by rw [h]; rfl)).symm

set_option maxHeartbeats 4000000 in
theorem within_all : ∀ n, n ≤ 1048576 → ∀ (t : Tm) (v c : Int), t.size ≤ n → 0 ≤ v → v + t.depth ≤ 4194304 → FC Tryz.prog 46 [aT t, .int .i64 v, .int .i64 c] (.bool (scopedT t v c)) := by
  intro n
  induction n with
  | zero => intro hn t v c ht; have := t.size_pos; omega
  | succ n ih =>
  intro hn t v c ht hv0 hv
  have ih := ih (by omega)
  have hs := t.size_eq
  have hdp := t.depth_eq
  have hlen := len_le_sizes t.kids
  have hfe := scopedT_eq t v c
  refine FC_intro hty Tryz.func46 rfl rfl rfl fun w0 => ?_
  repeat' (first | refine WL_p hty rfl rfl ?_ | refine WL_nil ?_ | refine AC_seq ?_ | refine AC_region ?_ | refine AC_block ?_ | refine AC_skip ?_ | refine AC_condT rfl ?_ | refine AC_condF rfl ?_ | refine AC_exit ?_ | refine AC_ret ?_ | refine WL_m rfl (m_idxN hty rfl rfl rfl (by assumption) rfl) ?_ | refine ends_bool rfl ?_ | refine WL_cmp rfl rfl rfl rfl (fun _ => ?_) (fun _ => ?_) | refine AC_cond rfl (fun _ => ?_) (fun _ => ?_))
  · rw [hfe, if_pos (by assumption)]; simp [*]
  · rw [hfe, if_pos (by assumption)]; simp [*]
  · rw [hfe, if_neg (by assumption), if_pos (by assumption)]; simp [*]
  · rw [hfe, if_neg (by assumption), if_pos (by assumption)]; simp [*]
  · rw [hfe, if_neg (by assumption), if_neg (by assumption), if_pos (by assumption)]; simp [*]
  · rw [hfe, if_neg (by assumption), if_neg (by assumption), if_pos (by assumption)]; simp [*]
  rw [if_neg (by assumption), if_neg (by assumption), if_neg (by assumption)] at hfe
  refine AC_for t.kids.length (fun j => scopedTs t.kind 0 (t.kids.take j) v c = true) (fun j => ⟨envOf [(1, .int .i64 v), (2, .int .i64 c), (3, .ptr 3 0), (29, sT t.kids), (30, .int .i64 ((rsT t.kids).length : Nat)), (31, .int .i64 (j : Nat))], bkOf [(3, .box (cT t))]⟩) (less_sub ⟨⟨_, rfl, .inl ⟨.refl _, rfl⟩⟩, ⟨_, rfl, .inl ⟨.refl _, rfl⟩⟩, ⟨_, rfl, .inl ⟨.refl _, rfl⟩⟩, ⟨_, rfl, .inl ⟨.refl _, rfl⟩⟩, ⟨_, rfl, .inl ⟨.refl _, rfl⟩⟩, ⟨_, rfl, .inl ⟨.refl _, rfl⟩⟩, trivial⟩ ⟨⟨⟨_, rfl, .refl _⟩, rfl⟩, trivial⟩) rfl ?_
  intro j hj hI
  repeat' (first | refine WL_p hty rfl rfl ?_ | refine WL_nil ?_ | refine AC_seq ?_ | refine AC_region ?_ | refine AC_block ?_ | refine AC_skip ?_ | refine AC_condT rfl ?_ | refine AC_condF rfl ?_ | refine AC_exit ?_ | refine AC_ret ?_ | refine WL_m rfl (m_idxN hty rfl rfl rfl (by assumption) rfl) ?_ | refine ends_bool rfl ?_)
  refine WL_cmp rfl rfl rfl rfl (fun hc => ?_) (fun hc => ?_)
  · have hlt : j < t.kids.length := by rw [rsT_length] at hc; omega
    obtain ⟨k, hk, hmem⟩ := get_of_lt hlt
    have hks := size_le_sizes hmem
    have hkd := depth_le_depths hmem
    have rk := rsT_get hk
    have hbi : 0 ≤ bindsR t.kind (j : Nat) ∧ bindsR t.kind (j : Nat) ≤ 1 := by unfold bindsR; split <;> omega
    have hwr : IntKind.i64.wrap (v + bindsR t.kind (j : Nat)) = v + bindsR t.kind (j : Nat) := wrap_ok (n := v + bindsR t.kind (j : Nat)) (by omega) (by omega)
    have hkc := ih k (v + bindsR t.kind (j : Nat)) c (by omega) (by omega) (by omega)
    rw [← hwr] at hkc
    have hsp : scopedTs t.kind 0 t.kids v c = (scopedTs t.kind 0 (t.kids.take j) v c && (scopedT k (v + bindsR t.kind (j : Nat)) c && scopedTs t.kind (0 + (j : Nat) + 1) (t.kids.drop (j + 1)) v c)) := by
      conv => lhs; rw [← List.take_append_drop j t.kids, scopedTs_append, List.drop_eq_getElem_cons hlt, scopedTs]
      have h1 : (t.kids.take j).length = j := by rw [List.length_take]; omega
      have h2 : t.kids[j] = k := by rw [List.getElem?_eq_getElem hlt] at hk; exact Option.some.inj hk
      rw [h1, h2, Int.zero_add]
    have hst : scopedTs t.kind 0 (t.kids.take (j + 1)) v c = (scopedTs t.kind 0 (t.kids.take j) v c && scopedT k (v + bindsR t.kind (j : Nat)) c) := by
      have h1 : (t.kids.take j).length = j := by rw [List.length_take]; omega
      rw [List.take_add_one, hk, Option.toList_some, scopedTs_append, h1]
      simp [scopedTs]
    repeat' (first | refine AC_drawnE (id := 11) tbScope46_11 rfl (by kernel_rfl) ?_ | refine WE_call 0 rfl (kbinds_spec _ _) rfl rfl rfl ?_ | refine WE_callB rfl hkc rfl (fun _ => ?_) (fun _ => ?_) | refine WE_cons (.inl ⟨rfl, stepE_ok hty rfl rfl⟩) ?_ | refine WE_nil ⟨by kernel_rfl, ?_⟩ | refine WL_p hty rfl rfl ?_ | refine WL_nil ?_ | refine AC_seq ?_ | refine AC_region ?_ | refine AC_block ?_ | refine AC_skip ?_ | refine AC_condT rfl ?_ | refine AC_condF rfl ?_ | refine AC_exit ?_ | refine AC_ret ?_ | refine WL_m rfl (m_idxN hty rfl rfl rfl (by assumption) rfl) ?_ | refine ends_bool rfl ?_ | refine WL_cmp rfl rfl rfl rfl (fun _ => ?_) (fun _ => ?_) | refine AC_cond rfl (fun _ => ?_) (fun _ => ?_) | refine WE_cmp rfl rfl rfl rfl (fun _ => ?_) (fun _ => ?_))
    all_goals (rename_i hb; rw [hwr] at hb)
    · refine ⟨hlt, by rw [hst, hI, hb]; rfl, (less_sub ⟨⟨_, rfl, .inl ⟨.refl _, rfl⟩⟩, ⟨_, rfl, .inl ⟨.refl _, rfl⟩⟩, ⟨_, rfl, .inl ⟨.refl _, rfl⟩⟩, ⟨_, rfl, .inl ⟨.refl _, rfl⟩⟩, ⟨_, rfl, .inl ⟨.refl _, rfl⟩⟩, ⟨_, rfl, see_eq ?_ rfl⟩, trivial⟩ ⟨⟨⟨_, rfl, .refl _⟩, rfl⟩, trivial⟩)⟩
      exact congrArg (AV.int .i64) ((wrap_ok (by omega) (by omega)).trans (by omega))
    · rw [hfe, hsp, hb]; simp
  · obtain rfl : j = t.kids.length := by rw [rsT_length] at hc; omega
    rw [List.take_length] at hI
    repeat' (first | refine WL_p hty rfl rfl ?_ | refine WL_nil ?_ | refine AC_seq ?_ | refine AC_region ?_ | refine AC_block ?_ | refine AC_skip ?_ | refine AC_condT rfl ?_ | refine AC_condF rfl ?_ | refine AC_exit ?_ | refine AC_ret ?_ | refine WL_m rfl (m_idxN hty rfl rfl rfl (by assumption) rfl) ?_ | refine ends_bool rfl ?_ | refine WL_cmp rfl rfl rfl rfl (fun _ => ?_) (fun _ => ?_) | refine AC_cond rfl (fun _ => ?_) (fun _ => ?_))
    rw [hfe, hI]

mutual
theorem scoped_big : ∀ (t : Tm) (v v' c : Int), formedT t = true → 65536 ≤ v → 65536 ≤ v' → scopedT t v c = scopedT t v' c
  | .mk k n l, v, v', c, hf, h1, h2 => by
    rw [scopedT, scopedT]
    split
    · rename_i hk
      have := formedT_var hf hk
      simp only [Tm.num] at this
      rw [decide_eq_true (by omega), decide_eq_true (by omega)]
    · rw [scopeds_big k 0 l v v' c (fun u hu => formedT_kids (t := .mk k n l) hf hu) h1 h2]
theorem scopeds_big : ∀ (k i : Int) (l : List Tm) (v v' c : Int), (∀ u, u ∈ l → formedT u = true) → 65536 ≤ v → 65536 ≤ v' → scopedTs k i l v c = scopedTs k i l v' c
  | _, _, [], _, _, _, _, _, _ => rfl
  | k, i, t :: l, v, v', c, hf, h1, h2 => by
    have hbi : 0 ≤ bindsR k i := by unfold bindsR; split <;> omega
    rw [scopedTs, scopedTs, scoped_big t (v + bindsR k i) (v' + bindsR k i) c (hf t List.mem_cons_self) (by omega) (by omega), scopeds_big k (i + 1) l v v' c (fun u hu => hf u (List.mem_cons_of_mem _ hu)) h1 h2]
end

theorem tscope_spec (t : Tm) (v c : Int) (h : t.size ≤ 1048576) : FC Tryz.prog 22 [aT t, .int .i64 v, .int .i64 c] (.bool (scopeT t v c)) := by
  have hd := t.depth_le
  have hsc : checkT t = 0 → scopedT t (if 1048576 < v then 1048576 else v) c = scopedT t (if 65536 < v then 65536 else v) c := by
    intro hc
    have hf := (checkT_ok0 hc)
    by_cases h1 : 1048576 < v
    · rw [if_pos h1, if_pos (by omega)]; exact scoped_big t _ _ c hf (by omega) (by omega)
    · rw [if_neg h1]
      by_cases h2 : 65536 < v
      · rw [if_pos h2]; exact scoped_big t _ _ c hf (by omega) (by omega)
      · rw [if_neg h2]
  refine FC_intro hty Tryz.func22 rfl rfl rfl fun w0 => ?_
  repeat' (first | refine WL_call 0 rfl (tcheck_spec t h) rfl rfl rfl ?_ | refine WL_m rfl (m_min rfl rfl rfl) ?_ | refine WL_callB rfl (within_all 1048576 (by omega) t _ c h (by split <;> omega) (by split <;> omega)) rfl (fun _ => ?_) (fun _ => ?_) | refine WL_p hty rfl rfl ?_ | refine WL_nil ?_ | refine AC_seq ?_ | refine AC_region ?_ | refine AC_skip ?_ | refine AC_ret ?_ | refine WL_ung rfl rfl ?_ | refine WL_offT rfl rfl rfl ?_ | refine WL_offF rfl rfl rfl ?_ | refine WL_offU rfl rfl rfl ?_ | refine ends_bool rfl ?_ | refine WL_cmp rfl rfl rfl rfl (fun _ => ?_) (fun _ => ?_))
  all_goals first
    | (simp [scopeT, *]; done)
    | (rename_i h1 h2 h3 h4; rw [scopeT, hsc h3, decide_eq_true (by omega), decide_eq_true (by omega), decide_eq_true h3, h4]; rfl)

/-! rows that are alike -/
def eqB {α : Type} (p : α → α → Bool) : List α → List α → Bool
  | [], [] => true
  | a :: l, b :: r => p a b && eqB p l r
  | _, _ => false
theorem eqB_len {α : Type} {p : α → α → Bool} : ∀ {l r : List α}, l.length ≠ r.length → eqB p l r = false
  | [], [], h => absurd rfl h
  | [], _ :: _, _ => rfl
  | _ :: _, [], _ => rfl
  | a :: l, b :: r, h => by simp only [eqB, eqB_len (p := p) (l := l) (r := r) (fun q => h (by simp [q])), Bool.and_false]
theorem eqB_all {α : Type} {p : α → α → Bool} : ∀ {l r : List α}, l.length = r.length → (∀ (i : Nat) (a b : α), l[i]? = some a → r[i]? = some b → p a b = true) → eqB p l r = true
  | [], [], _, _ => rfl
  | [], _ :: _, h, _ => by simp at h
  | _ :: _, [], h, _ => by simp at h
  | a :: l, b :: r, h, q => by
    simp only [eqB, q 0 a b rfl rfl, Bool.true_and]
    exact eqB_all (by simpa using h) (fun i a b h1 h2 => q (i + 1) a b (by simpa using h1) (by simpa using h2))
theorem eqB_not {α : Type} {p : α → α → Bool} : ∀ {l r : List α} {i : Nat} {a b : α}, l[i]? = some a → r[i]? = some b → p a b = false → eqB p l r = false
  | a :: l, b :: r, 0, x, y, h1, h2, hp => by
    obtain rfl : a = x := by simpa using h1
    obtain rfl : b = y := by simpa using h2
    simp only [eqB, hp, Bool.false_and]
  | a :: l, b :: r, i + 1, x, y, h1, h2, hp => by
    simp only [eqB, eqB_not (l := l) (r := r) (by simpa using h1) (by simpa using h2) hp, Bool.and_false]
  | [], _, _, _, _, h, _, _ => by simp at h
  | _ :: _, [], _, _, _, _, h, _ => by simp at h
theorem eqB_eq {α : Type} [DecidableEq α] : ∀ (l r : List α), eqB (fun x y => decide (x = y)) l r = decide (l = r)
  | [], [] => rfl
  | [], _ :: _ => rfl
  | _ :: _, [] => rfl
  | a :: l, b :: r => by
    simp only [eqB, eqB_eq l r, List.cons.injEq]
    by_cases h : a = b <;> by_cases h2 : l = r <;> simp [h, h2]

theorem equalFuncT_spec (g : Nat) (xa : List AV) (hxa : xa.all closed0 = true) (p : Tm → Tm → Bool) (la lb : List Tm) (hl : la.length ≤ 1048576) (h : ∀ (i : Nat) (x y : Tm), la[i]? = some x → lb[i]? = some y → FC Tryz.prog g ([aT x, aT y] ++ xa) (.bool (p x y))) :
    FC Tryz.prog 130 [sT la, sT lb, .fn (.func g) [] xa] (.bool (eqB p la lb)) := by
  have hcl : closedS (.fn (.func g) [] xa) = true := by simp only [closedS, hxa]; rfl
  refine FC_intro hty Tryz.func130 rfl rfl rfl fun w0 => ?_
  repeat' (first | refine WL_p hty rfl rfl ?_ | refine WL_nil ?_ | refine AC_seq ?_ | refine AC_region ?_ | refine AC_block ?_ | refine AC_skip ?_ | refine AC_condT rfl ?_ | refine AC_condF rfl ?_ | refine AC_exit ?_ | refine AC_ret ?_ | refine WL_m rfl (m_idxN hty rfl rfl rfl (by assumption) rfl) ?_ | refine ends_bool rfl ?_ | refine WL_cmp rfl rfl rfl rfl (fun _ => ?_) (fun _ => ?_) | refine AC_cond rfl (fun _ => ?_) (fun _ => ?_))
  · rename_i hne
    rw [rsT_length, rsT_length] at hne
    exact (eqB_len (fun q => hne (by rw [q]))).symm
  rename_i hne
  rw [rsT_length, rsT_length] at hne
  have hll : la.length = lb.length := by omega
  refine AC_for la.length (fun j => ∀ (i : Nat) (a b : Tm), i < j → la[i]? = some a → lb[i]? = some b → p a b = true) (fun j => ⟨envOf [(1, sT lb), (2, .fn (.func g) [] xa), (15, sT la), (16, .int .i64 ((rsT la).length : Nat)), (17, .int .i64 (j : Nat))], bkOf []⟩)
    (less_sub ⟨⟨_, rfl, .inl ⟨.refl _, rfl⟩⟩, ⟨_, rfl, .inl ⟨.refl _, hcl⟩⟩, ⟨_, rfl, .inl ⟨.refl _, rfl⟩⟩, ⟨_, rfl, .inl ⟨.refl _, rfl⟩⟩, ⟨_, rfl, .inl ⟨.refl _, rfl⟩⟩, trivial⟩ trivial) (fun i a b hi => absurd hi (Nat.not_lt_zero _)) ?_
  intro j hj hI
  repeat' (first | refine WL_p hty rfl rfl ?_ | refine WL_nil ?_ | refine AC_seq ?_ | refine AC_region ?_ | refine AC_block ?_ | refine AC_skip ?_ | refine AC_condT rfl ?_ | refine AC_condF rfl ?_ | refine AC_exit ?_ | refine AC_ret ?_ | refine WL_m rfl (m_idxN hty rfl rfl rfl (by assumption) rfl) ?_ | refine ends_bool rfl ?_)
  refine WL_cmp rfl rfl rfl rfl (fun hc => ?_) (fun hc => ?_)
  · have hlt : j < la.length := by rw [rsT_length] at hc; omega
    obtain ⟨a, ha, _⟩ := get_of_lt hlt
    obtain ⟨b, hb, _⟩ := get_of_lt (hll ▸ hlt)
    have ra := rsT_get ha
    have rb := rsT_get hb
    repeat' (first | refine WL_callFB rfl (by simp [hxa]) rfl (h j a b ha hb) rfl (fun _ => ?_) (fun _ => ?_) | refine WL_p hty rfl rfl ?_ | refine WL_nil ?_ | refine AC_seq ?_ | refine AC_region ?_ | refine AC_block ?_ | refine AC_skip ?_ | refine AC_condT rfl ?_ | refine AC_condF rfl ?_ | refine AC_exit ?_ | refine AC_ret ?_ | refine WL_m rfl (m_idxN hty rfl rfl rfl (by assumption) rfl) ?_ | refine ends_bool rfl ?_ | refine WL_cmp rfl rfl rfl rfl (fun _ => ?_) (fun _ => ?_) | refine AC_cond rfl (fun _ => ?_) (fun _ => ?_))
    · rename_i hp
      refine ⟨hlt, fun i x y hi hx hy => ?_, (less_sub ⟨⟨_, rfl, .inl ⟨.refl _, rfl⟩⟩, ⟨_, rfl, .inl ⟨.refl _, hcl⟩⟩, ⟨_, rfl, .inl ⟨.refl _, rfl⟩⟩, ⟨_, rfl, .inl ⟨.refl _, rfl⟩⟩, ⟨_, rfl, see_eq ?_ rfl⟩, trivial⟩ trivial)⟩
      · rcases Nat.lt_or_ge i j with q | q
        · exact hI i x y q hx hy
        · obtain rfl : i = j := by omega
          rw [ha] at hx
          rw [hb] at hy
          obtain rfl := Option.some.inj hx
          obtain rfl := Option.some.inj hy
          exact hp
      · exact congrArg (AV.int .i64) ((wrap_ok (by omega) (by omega)).trans (by omega))
    · exact (eqB_not ha hb ‹_›).symm
  · obtain rfl : j = la.length := by rw [rsT_length] at hc; omega
    repeat' (first | refine WL_p hty rfl rfl ?_ | refine WL_nil ?_ | refine AC_seq ?_ | refine AC_region ?_ | refine AC_block ?_ | refine AC_skip ?_ | refine AC_condT rfl ?_ | refine AC_condF rfl ?_ | refine AC_exit ?_ | refine AC_ret ?_ | refine WL_m rfl (m_idxN hty rfl rfl rfl (by assumption) rfl) ?_ | refine ends_bool rfl ?_ | refine WL_cmp rfl rfl rfl rfl (fun _ => ?_) (fun _ => ?_) | refine AC_cond rfl (fun _ => ?_) (fun _ => ?_))
    exact (eqB_all hll (fun i a b h1 h2 => hI i a b (List.getElem?_eq_some_iff.1 h1).1 h1 h2)).symm

theorem equalFuncA_spec (g : Nat) (xa : List AV) (hxa : xa.all closed0 = true) (p : Ar → Ar → Bool) (la lb : List Ar) (hl : la.length ≤ 1048576) (h : ∀ (i : Nat) (x y : Ar), la[i]? = some x → lb[i]? = some y → FC Tryz.prog g ([aA x, aA y] ++ xa) (.bool (p x y))) :
    FC Tryz.prog 128 [sA la, sA lb, .fn (.func g) [] xa] (.bool (eqB p la lb)) := by
  have hcl : closedS (.fn (.func g) [] xa) = true := by simp only [closedS, hxa]; rfl
  refine FC_intro hty Tryz.func128 rfl rfl rfl fun w0 => ?_
  repeat' (first | refine WL_p hty rfl rfl ?_ | refine WL_nil ?_ | refine AC_seq ?_ | refine AC_region ?_ | refine AC_block ?_ | refine AC_skip ?_ | refine AC_condT rfl ?_ | refine AC_condF rfl ?_ | refine AC_exit ?_ | refine AC_ret ?_ | refine WL_m rfl (m_idxN hty rfl rfl rfl (by assumption) rfl) ?_ | refine ends_bool rfl ?_ | refine WL_cmp rfl rfl rfl rfl (fun _ => ?_) (fun _ => ?_) | refine AC_cond rfl (fun _ => ?_) (fun _ => ?_))
  · rename_i hne
    rw [rsA_length, rsA_length] at hne
    exact (eqB_len (fun q => hne (by rw [q]))).symm
  rename_i hne
  rw [rsA_length, rsA_length] at hne
  have hll : la.length = lb.length := by omega
  refine AC_for la.length (fun j => ∀ (i : Nat) (a b : Ar), i < j → la[i]? = some a → lb[i]? = some b → p a b = true) (fun j => ⟨envOf [(1, sA lb), (2, .fn (.func g) [] xa), (15, sA la), (16, .int .i64 ((rsA la).length : Nat)), (17, .int .i64 (j : Nat))], bkOf []⟩)
    (less_sub ⟨⟨_, rfl, .inl ⟨.refl _, rfl⟩⟩, ⟨_, rfl, .inl ⟨.refl _, hcl⟩⟩, ⟨_, rfl, .inl ⟨.refl _, rfl⟩⟩, ⟨_, rfl, .inl ⟨.refl _, rfl⟩⟩, ⟨_, rfl, .inl ⟨.refl _, rfl⟩⟩, trivial⟩ trivial) (fun i a b hi => absurd hi (Nat.not_lt_zero _)) ?_
  intro j hj hI
  repeat' (first | refine WL_p hty rfl rfl ?_ | refine WL_nil ?_ | refine AC_seq ?_ | refine AC_region ?_ | refine AC_block ?_ | refine AC_skip ?_ | refine AC_condT rfl ?_ | refine AC_condF rfl ?_ | refine AC_exit ?_ | refine AC_ret ?_ | refine WL_m rfl (m_idxN hty rfl rfl rfl (by assumption) rfl) ?_ | refine ends_bool rfl ?_)
  refine WL_cmp rfl rfl rfl rfl (fun hc => ?_) (fun hc => ?_)
  · have hlt : j < la.length := by rw [rsA_length] at hc; omega
    obtain ⟨a, ha, _⟩ := get_of_lt hlt
    obtain ⟨b, hb, _⟩ := get_of_lt (hll ▸ hlt)
    have ra := rsA_get ha
    have rb := rsA_get hb
    repeat' (first | refine WL_callFB rfl (by simp [hxa]) rfl (h j a b ha hb) rfl (fun _ => ?_) (fun _ => ?_) | refine WL_p hty rfl rfl ?_ | refine WL_nil ?_ | refine AC_seq ?_ | refine AC_region ?_ | refine AC_block ?_ | refine AC_skip ?_ | refine AC_condT rfl ?_ | refine AC_condF rfl ?_ | refine AC_exit ?_ | refine AC_ret ?_ | refine WL_m rfl (m_idxN hty rfl rfl rfl (by assumption) rfl) ?_ | refine ends_bool rfl ?_ | refine WL_cmp rfl rfl rfl rfl (fun _ => ?_) (fun _ => ?_) | refine AC_cond rfl (fun _ => ?_) (fun _ => ?_))
    · rename_i hp
      refine ⟨hlt, fun i x y hi hx hy => ?_, (less_sub ⟨⟨_, rfl, .inl ⟨.refl _, rfl⟩⟩, ⟨_, rfl, .inl ⟨.refl _, hcl⟩⟩, ⟨_, rfl, .inl ⟨.refl _, rfl⟩⟩, ⟨_, rfl, .inl ⟨.refl _, rfl⟩⟩, ⟨_, rfl, see_eq ?_ rfl⟩, trivial⟩ trivial)⟩
      · rcases Nat.lt_or_ge i j with q | q
        · exact hI i x y q hx hy
        · obtain rfl : i = j := by omega
          rw [ha] at hx
          rw [hb] at hy
          obtain rfl := Option.some.inj hx
          obtain rfl := Option.some.inj hy
          exact hp
      · exact congrArg (AV.int .i64) ((wrap_ok (by omega) (by omega)).trans (by omega))
    · exact (eqB_not ha hb ‹_›).symm
  · obtain rfl : j = la.length := by rw [rsA_length] at hc; omega
    repeat' (first | refine WL_p hty rfl rfl ?_ | refine WL_nil ?_ | refine AC_seq ?_ | refine AC_region ?_ | refine AC_block ?_ | refine AC_skip ?_ | refine AC_condT rfl ?_ | refine AC_condF rfl ?_ | refine AC_exit ?_ | refine AC_ret ?_ | refine WL_m rfl (m_idxN hty rfl rfl rfl (by assumption) rfl) ?_ | refine ends_bool rfl ?_ | refine WL_cmp rfl rfl rfl rfl (fun _ => ?_) (fun _ => ?_) | refine AC_cond rfl (fun _ => ?_) (fun _ => ?_))
    exact (eqB_all hll (fun i a b h1 h2 => hI i a b (List.getElem?_eq_some_iff.1 h1).1 h1 h2)).symm

theorem equalFuncS_spec (g : Nat) (xa : List AV) (hxa : xa.all closed0 = true) (p : Sr → Sr → Bool) (la lb : List Sr) (hl : la.length ≤ 1048576) (h : ∀ (i : Nat) (x y : Sr), la[i]? = some x → lb[i]? = some y → FC Tryz.prog g ([aS x, aS y] ++ xa) (.bool (p x y))) :
    FC Tryz.prog 83 [sS la, sS lb, .fn (.func g) [] xa] (.bool (eqB p la lb)) := by
  have hcl : closedS (.fn (.func g) [] xa) = true := by simp only [closedS, hxa]; rfl
  refine FC_intro hty Tryz.func83 rfl rfl rfl fun w0 => ?_
  repeat' (first | refine WL_p hty rfl rfl ?_ | refine WL_nil ?_ | refine AC_seq ?_ | refine AC_region ?_ | refine AC_block ?_ | refine AC_skip ?_ | refine AC_condT rfl ?_ | refine AC_condF rfl ?_ | refine AC_exit ?_ | refine AC_ret ?_ | refine WL_m rfl (m_idxN hty rfl rfl rfl (by assumption) rfl) ?_ | refine ends_bool rfl ?_ | refine WL_cmp rfl rfl rfl rfl (fun _ => ?_) (fun _ => ?_) | refine AC_cond rfl (fun _ => ?_) (fun _ => ?_))
  · rename_i hne
    rw [rsS_length, rsS_length] at hne
    exact (eqB_len (fun q => hne (by rw [q]))).symm
  rename_i hne
  rw [rsS_length, rsS_length] at hne
  have hll : la.length = lb.length := by omega
  refine AC_for la.length (fun j => ∀ (i : Nat) (a b : Sr), i < j → la[i]? = some a → lb[i]? = some b → p a b = true) (fun j => ⟨envOf [(1, sS lb), (2, .fn (.func g) [] xa), (15, sS la), (16, .int .i64 ((rsS la).length : Nat)), (17, .int .i64 (j : Nat))], bkOf []⟩)
    (less_sub ⟨⟨_, rfl, .inl ⟨.refl _, rfl⟩⟩, ⟨_, rfl, .inl ⟨.refl _, hcl⟩⟩, ⟨_, rfl, .inl ⟨.refl _, rfl⟩⟩, ⟨_, rfl, .inl ⟨.refl _, rfl⟩⟩, ⟨_, rfl, .inl ⟨.refl _, rfl⟩⟩, trivial⟩ trivial) (fun i a b hi => absurd hi (Nat.not_lt_zero _)) ?_
  intro j hj hI
  repeat' (first | refine WL_p hty rfl rfl ?_ | refine WL_nil ?_ | refine AC_seq ?_ | refine AC_region ?_ | refine AC_block ?_ | refine AC_skip ?_ | refine AC_condT rfl ?_ | refine AC_condF rfl ?_ | refine AC_exit ?_ | refine AC_ret ?_ | refine WL_m rfl (m_idxN hty rfl rfl rfl (by assumption) rfl) ?_ | refine ends_bool rfl ?_)
  refine WL_cmp rfl rfl rfl rfl (fun hc => ?_) (fun hc => ?_)
  · have hlt : j < la.length := by rw [rsS_length] at hc; omega
    obtain ⟨a, ha, _⟩ := get_of_lt hlt
    obtain ⟨b, hb, _⟩ := get_of_lt (hll ▸ hlt)
    have ra := rsS_get ha
    have rb := rsS_get hb
    repeat' (first | refine WL_callFB rfl (by simp [hxa]) rfl (h j a b ha hb) rfl (fun _ => ?_) (fun _ => ?_) | refine WL_p hty rfl rfl ?_ | refine WL_nil ?_ | refine AC_seq ?_ | refine AC_region ?_ | refine AC_block ?_ | refine AC_skip ?_ | refine AC_condT rfl ?_ | refine AC_condF rfl ?_ | refine AC_exit ?_ | refine AC_ret ?_ | refine WL_m rfl (m_idxN hty rfl rfl rfl (by assumption) rfl) ?_ | refine ends_bool rfl ?_ | refine WL_cmp rfl rfl rfl rfl (fun _ => ?_) (fun _ => ?_) | refine AC_cond rfl (fun _ => ?_) (fun _ => ?_))
    · rename_i hp
      refine ⟨hlt, fun i x y hi hx hy => ?_, (less_sub ⟨⟨_, rfl, .inl ⟨.refl _, rfl⟩⟩, ⟨_, rfl, .inl ⟨.refl _, hcl⟩⟩, ⟨_, rfl, .inl ⟨.refl _, rfl⟩⟩, ⟨_, rfl, .inl ⟨.refl _, rfl⟩⟩, ⟨_, rfl, see_eq ?_ rfl⟩, trivial⟩ trivial)⟩
      · rcases Nat.lt_or_ge i j with q | q
        · exact hI i x y q hx hy
        · obtain rfl : i = j := by omega
          rw [ha] at hx
          rw [hb] at hy
          obtain rfl := Option.some.inj hx
          obtain rfl := Option.some.inj hy
          exact hp
      · exact congrArg (AV.int .i64) ((wrap_ok (by omega) (by omega)).trans (by omega))
    · exact (eqB_not ha hb ‹_›).symm
  · obtain rfl : j = la.length := by rw [rsS_length] at hc; omega
    repeat' (first | refine WL_p hty rfl rfl ?_ | refine WL_nil ?_ | refine AC_seq ?_ | refine AC_region ?_ | refine AC_block ?_ | refine AC_skip ?_ | refine AC_condT rfl ?_ | refine AC_condF rfl ?_ | refine AC_exit ?_ | refine AC_ret ?_ | refine WL_m rfl (m_idxN hty rfl rfl rfl (by assumption) rfl) ?_ | refine ends_bool rfl ?_ | refine WL_cmp rfl rfl rfl rfl (fun _ => ?_) (fun _ => ?_) | refine AC_cond rfl (fun _ => ?_) (fun _ => ?_))
    exact (eqB_all hll (fun i a b h1 h2 => hI i a b (List.getElem?_eq_some_iff.1 h1).1 h1 h2)).symm

theorem equalFuncC_spec (g : Nat) (xa : List AV) (hxa : xa.all closed0 = true) (p : Cn → Cn → Bool) (la lb : List Cn) (hl : la.length ≤ 1048576) (h : ∀ (i : Nat) (x y : Cn), la[i]? = some x → lb[i]? = some y → FC Tryz.prog g ([aC x, aC y] ++ xa) (.bool (p x y))) :
    FC Tryz.prog 87 [sC la, sC lb, .fn (.func g) [] xa] (.bool (eqB p la lb)) := by
  have hcl : closedS (.fn (.func g) [] xa) = true := by simp only [closedS, hxa]; rfl
  refine FC_intro hty Tryz.func87 rfl rfl rfl fun w0 => ?_
  repeat' (first | refine WL_p hty rfl rfl ?_ | refine WL_nil ?_ | refine AC_seq ?_ | refine AC_region ?_ | refine AC_block ?_ | refine AC_skip ?_ | refine AC_condT rfl ?_ | refine AC_condF rfl ?_ | refine AC_exit ?_ | refine AC_ret ?_ | refine WL_m rfl (m_idxN hty rfl rfl rfl (by assumption) rfl) ?_ | refine ends_bool rfl ?_ | refine WL_cmp rfl rfl rfl rfl (fun _ => ?_) (fun _ => ?_) | refine AC_cond rfl (fun _ => ?_) (fun _ => ?_))
  · rename_i hne
    rw [rsC_length, rsC_length] at hne
    exact (eqB_len (fun q => hne (by rw [q]))).symm
  rename_i hne
  rw [rsC_length, rsC_length] at hne
  have hll : la.length = lb.length := by omega
  refine AC_for la.length (fun j => ∀ (i : Nat) (a b : Cn), i < j → la[i]? = some a → lb[i]? = some b → p a b = true) (fun j => ⟨envOf [(1, sC lb), (2, .fn (.func g) [] xa), (15, sC la), (16, .int .i64 ((rsC la).length : Nat)), (17, .int .i64 (j : Nat))], bkOf []⟩)
    (less_sub ⟨⟨_, rfl, .inl ⟨.refl _, rfl⟩⟩, ⟨_, rfl, .inl ⟨.refl _, hcl⟩⟩, ⟨_, rfl, .inl ⟨.refl _, rfl⟩⟩, ⟨_, rfl, .inl ⟨.refl _, rfl⟩⟩, ⟨_, rfl, .inl ⟨.refl _, rfl⟩⟩, trivial⟩ trivial) (fun i a b hi => absurd hi (Nat.not_lt_zero _)) ?_
  intro j hj hI
  repeat' (first | refine WL_p hty rfl rfl ?_ | refine WL_nil ?_ | refine AC_seq ?_ | refine AC_region ?_ | refine AC_block ?_ | refine AC_skip ?_ | refine AC_condT rfl ?_ | refine AC_condF rfl ?_ | refine AC_exit ?_ | refine AC_ret ?_ | refine WL_m rfl (m_idxN hty rfl rfl rfl (by assumption) rfl) ?_ | refine ends_bool rfl ?_)
  refine WL_cmp rfl rfl rfl rfl (fun hc => ?_) (fun hc => ?_)
  · have hlt : j < la.length := by rw [rsC_length] at hc; omega
    obtain ⟨a, ha, _⟩ := get_of_lt hlt
    obtain ⟨b, hb, _⟩ := get_of_lt (hll ▸ hlt)
    have ra := rsC_get ha
    have rb := rsC_get hb
    repeat' (first | refine WL_callFB rfl (by simp [hxa]) rfl (h j a b ha hb) rfl (fun _ => ?_) (fun _ => ?_) | refine WL_p hty rfl rfl ?_ | refine WL_nil ?_ | refine AC_seq ?_ | refine AC_region ?_ | refine AC_block ?_ | refine AC_skip ?_ | refine AC_condT rfl ?_ | refine AC_condF rfl ?_ | refine AC_exit ?_ | refine AC_ret ?_ | refine WL_m rfl (m_idxN hty rfl rfl rfl (by assumption) rfl) ?_ | refine ends_bool rfl ?_ | refine WL_cmp rfl rfl rfl rfl (fun _ => ?_) (fun _ => ?_) | refine AC_cond rfl (fun _ => ?_) (fun _ => ?_))
    · rename_i hp
      refine ⟨hlt, fun i x y hi hx hy => ?_, (less_sub ⟨⟨_, rfl, .inl ⟨.refl _, rfl⟩⟩, ⟨_, rfl, .inl ⟨.refl _, hcl⟩⟩, ⟨_, rfl, .inl ⟨.refl _, rfl⟩⟩, ⟨_, rfl, .inl ⟨.refl _, rfl⟩⟩, ⟨_, rfl, see_eq ?_ rfl⟩, trivial⟩ trivial)⟩
      · rcases Nat.lt_or_ge i j with q | q
        · exact hI i x y q hx hy
        · obtain rfl : i = j := by omega
          rw [ha] at hx
          rw [hb] at hy
          obtain rfl := Option.some.inj hx
          obtain rfl := Option.some.inj hy
          exact hp
      · exact congrArg (AV.int .i64) ((wrap_ok (by omega) (by omega)).trans (by omega))
    · exact (eqB_not ha hb ‹_›).symm
  · obtain rfl : j = la.length := by rw [rsC_length] at hc; omega
    repeat' (first | refine WL_p hty rfl rfl ?_ | refine WL_nil ?_ | refine AC_seq ?_ | refine AC_region ?_ | refine AC_block ?_ | refine AC_skip ?_ | refine AC_condT rfl ?_ | refine AC_condF rfl ?_ | refine AC_exit ?_ | refine AC_ret ?_ | refine WL_m rfl (m_idxN hty rfl rfl rfl (by assumption) rfl) ?_ | refine ends_bool rfl ?_ | refine WL_cmp rfl rfl rfl rfl (fun _ => ?_) (fun _ => ?_) | refine AC_cond rfl (fun _ => ?_) (fun _ => ?_))
    exact (eqB_all hll (fun i a b h1 h2 => hI i a b (List.getElem?_eq_some_iff.1 h1).1 h1 h2)).symm

theorem tequal_all : ∀ n, n ≤ 1048576 → ∀ a b : Tm, a.size ≤ n → FC Tryz.prog 86 [aT a, aT b] (.bool (decide (a = b))) := by
  intro n
  induction n with
  | zero => intro hn a b ha; have := a.size_pos; omega
  | succ n ih =>
  intro hn a b ha
  have ih := ih (by omega)
  have hs := a.size_eq
  have hlen := len_le_sizes a.kids
  have hef := equalFuncT_spec 86 [] rfl (fun x y => decide (x = y)) a.kids b.kids (by omega) (fun i x y hx hy => ih x y (by have := size_le_sizes (List.mem_of_getElem? hx); omega))
  rw [eqB_eq] at hef
  refine FC_intro hty Tryz.func86 rfl rfl rfl fun w0 => ?_
  repeat' (first | refine WL_callB rfl hef rfl (fun _ => ?_) (fun _ => ?_) | refine WL_p hty rfl rfl ?_ | refine WL_nil ?_ | refine AC_seq ?_ | refine AC_region ?_ | refine AC_skip ?_ | refine AC_ret ?_ | refine WL_ung rfl rfl ?_ | refine WL_offT rfl rfl rfl ?_ | refine WL_offF rfl rfl rfl ?_ | refine WL_offU rfl rfl rfl ?_ | refine ends_bool rfl ?_ | refine WL_cmp rfl rfl rfl rfl (fun _ => ?_) (fun _ => ?_))
  · rename_i h1 h2 h3
    exact (decide_eq_true (Tm.ext h1 h2 (of_decide_eq_true h3))).symm
  · rename_i h3
    exact (decide_eq_false fun q => of_decide_eq_false h3 (by rw [q])).symm
  · rename_i h3
    exact (decide_eq_false fun q => h3 (by rw [q])).symm
  · rename_i h3
    exact (decide_eq_false fun q => h3 (by rw [q])).symm
theorem tequal_spec (a b : Tm) (h : a.size ≤ 1048576) : FC Tryz.prog 86 [aT a, aT b] (.bool (decide (a = b))) := tequal_all 1048576 (by omega) a b h

theorem sterms_spec (a b : List Tm) (h : sizes a ≤ 1048576) : FC Tryz.prog 89 [sT a, sT b] (.bool (decide (a = b))) := by
  have hlen := len_le_sizes a
  have hef := equalFuncT_spec 86 [] rfl (fun x y => decide (x = y)) a b (by omega) (fun i x y hx hy => tequal_spec x y (by have := size_le_sizes (List.mem_of_getElem? hx); omega))
  rw [eqB_eq] at hef
  refine FC_intro hty Tryz.func89 rfl rfl rfl fun w0 => ?_
  repeat' (first | refine WL_callB rfl hef rfl (fun _ => ?_) (fun _ => ?_) | refine WL_p hty rfl rfl ?_ | refine WL_nil ?_ | refine AC_seq ?_ | refine AC_region ?_ | refine AC_skip ?_ | refine AC_ret ?_ | refine ends_bool rfl ?_)
  all_goals (symm; assumption)

theorem sargs1_spec (a b : Ar) (ha : a.size ≤ 1048576) : FC Tryz.prog 129 [aA a, aA b] (.bool (decide (a = b))) := by
  unfold Ar.size at ha
  refine FC_intro hty Tryz.func129 rfl rfl rfl fun w0 => ?_
  repeat' (first | refine WL_callB rfl (sterms_spec _ _ (by omega)) rfl (fun _ => ?_) (fun _ => ?_) | refine WL_callB rfl (tequal_spec _ _ (by omega)) rfl (fun _ => ?_) (fun _ => ?_) | refine WL_p hty rfl rfl ?_ | refine WL_nil ?_ | refine AC_seq ?_ | refine AC_region ?_ | refine AC_skip ?_ | refine AC_ret ?_ | refine WL_ung rfl rfl ?_ | refine WL_offT rfl rfl rfl ?_ | refine WL_offF rfl rfl rfl ?_ | refine WL_offU rfl rfl rfl ?_ | refine ends_bool rfl ?_ | refine WL_cmp rfl rfl rfl rfl (fun _ => ?_) (fun _ => ?_) | refine WL_eqB hty hbool rfl rfl rfl (fun _ => ?_) (fun _ => ?_))
  all_goals (cases a; cases b; simp_all)
theorem sargs_spec (a b : List Ar) (h : sizesA a ≤ 1048576) : FC Tryz.prog 85 [sA a, sA b] (.bool (decide (a = b))) := by
  have hlen := len_le_sizesA a
  have hef := equalFuncA_spec 129 [] rfl (fun x y => decide (x = y)) a b (by omega) (fun i x y hx hy => sargs1_spec x y (by have := size_le_sizesA (List.mem_of_getElem? hx); omega))
  rw [eqB_eq] at hef
  refine FC_intro hty Tryz.func85 rfl rfl rfl fun w0 => ?_
  repeat' (first | refine WL_callB rfl hef rfl (fun _ => ?_) (fun _ => ?_) | refine WL_p hty rfl rfl ?_ | refine WL_nil ?_ | refine AC_seq ?_ | refine AC_region ?_ | refine AC_skip ?_ | refine AC_ret ?_ | refine ends_bool rfl ?_)
  all_goals (symm; assumption)
theorem same1_spec (a b : Sr) (ha : a.size ≤ 1048576) : FC Tryz.prog 84 [aS a, aS b] (.bool (decide (a = b))) := by
  unfold Sr.size at ha
  refine FC_intro hty Tryz.func84 rfl rfl rfl fun w0 => ?_
  repeat' (first | refine WL_callB rfl (sargs_spec _ _ (by omega)) rfl (fun _ => ?_) (fun _ => ?_) | refine WL_callB rfl (tequal_spec _ _ (by omega)) rfl (fun _ => ?_) (fun _ => ?_) | refine WL_p hty rfl rfl ?_ | refine WL_nil ?_ | refine AC_seq ?_ | refine AC_region ?_ | refine AC_skip ?_ | refine AC_ret ?_ | refine WL_ung rfl rfl ?_ | refine WL_offT rfl rfl rfl ?_ | refine WL_offF rfl rfl rfl ?_ | refine WL_offU rfl rfl rfl ?_ | refine ends_bool rfl ?_ | refine WL_cmp rfl rfl rfl rfl (fun _ => ?_) (fun _ => ?_) | refine WL_eqB hty hbool rfl rfl rfl (fun _ => ?_) (fun _ => ?_))
  all_goals (cases a; cases b; simp_all)
theorem same2_spec (a b : Cn) (ha : a.size ≤ 1048576) : FC Tryz.prog 88 [aC a, aC b] (.bool (decide (a = b))) := by
  unfold Cn.size at ha
  refine FC_intro hty Tryz.func88 rfl rfl rfl fun w0 => ?_
  repeat' (first | refine WL_callB rfl (sargs_spec _ _ (by omega)) rfl (fun _ => ?_) (fun _ => ?_) | refine WL_callB rfl (sterms_spec _ _ (by omega)) rfl (fun _ => ?_) (fun _ => ?_) | refine WL_callB rfl (tequal_spec _ _ (by omega)) rfl (fun _ => ?_) (fun _ => ?_) | refine WL_p hty rfl rfl ?_ | refine WL_nil ?_ | refine AC_seq ?_ | refine AC_region ?_ | refine AC_skip ?_ | refine AC_ret ?_ | refine WL_ung rfl rfl ?_ | refine WL_offT rfl rfl rfl ?_ | refine WL_offF rfl rfl rfl ?_ | refine WL_offU rfl rfl rfl ?_ | refine ends_bool rfl ?_ | refine WL_cmp rfl rfl rfl rfl (fun _ => ?_) (fun _ => ?_))
  all_goals (cases a; cases b; simp_all)
theorem same_spec (a b : Bl) (h : a.size ≤ 1048576) : FC Tryz.prog 44 [aB a, aB b] (.bool (decide (a = b))) := by
  unfold Bl.size at h
  have hl1 := len_le_sizesS a.sorts
  have hl2 := len_le_sizesC a.cons
  have h1 := equalFuncS_spec 84 [] rfl (fun x y => decide (x = y)) a.sorts b.sorts (by omega) (fun i x y hx hy => same1_spec x y (by have := size_le_sizesS (List.mem_of_getElem? hx); omega))
  have h2 := equalFuncC_spec 88 [] rfl (fun x y => decide (x = y)) a.cons b.cons (by omega) (fun i x y hx hy => same2_spec x y (by have := size_le_sizesC (List.mem_of_getElem? hx); omega))
  rw [eqB_eq] at h1 h2
  refine FC_intro hty Tryz.func44 rfl rfl rfl fun w0 => ?_
  repeat' (first | refine WL_callB rfl h1 rfl (fun _ => ?_) (fun _ => ?_) | refine WL_callB rfl h2 rfl (fun _ => ?_) (fun _ => ?_) | refine WL_p hty rfl rfl ?_ | refine WL_nil ?_ | refine AC_seq ?_ | refine AC_region ?_ | refine AC_skip ?_ | refine AC_ret ?_ | refine WL_ung rfl rfl ?_ | refine WL_offT rfl rfl rfl ?_ | refine WL_offF rfl rfl rfl ?_ | refine WL_offU rfl rfl rfl ?_ | refine ends_bool rfl ?_ | refine WL_cmp rfl rfl rfl rfl (fun _ => ?_) (fun _ => ?_))
  all_goals (cases a; cases b; simp_all)

end Go.Proofs.YtlonpgdnmngnmaaGreat

/-
  All terms of arguments; the greatest of numbers.
-/
namespace Go.Proofs.YtlonpgdnmngnmaaGreat
set_option linter.unusedSimpArgs false
set_option linter.unusedVariables false
open Go.Aw Go.RowKit
def tbNames134_5 : List (Nat × List Nat) := [(0, []), (1, []), (2, [1]), (3, [1, 2]), (4, [0, 1, 2, 3]), (5, []), (6, [5]), (7, [0, 1, 2, 3, 4, 5, 6]), (8, []), (9, [8]), (10, [0, 1, 2, 3, 4, 5, 6, 7, 8, 9]), (11, [0, 1, 2, 3, 4, 5, 6, 7, 8, 9, 10])]
attribute [local irreducible] WL AC WD WE MStep OkOp

/-! the greatest -/
def gI (a b : Int) : Int := if b > a then b else a
def maxL : Int → List Int → Int
  | a, [] => a
  | a, b :: l => maxL (gI a b) l
theorem maxL_append (a : Int) (l m : List Int) : maxL a (l ++ m) = maxL (maxL a l) m := by
  induction l generalizing a with
  | nil => rfl
  | cons b l ih => exact ih (gI a b)

theorem slMax_spec (x : Int) (l : List Int) (hl : l.length ≤ 1048576) : FC Tryz.prog 135 [.lst 1 (rsI (x :: l)) false] (.int .i64 (maxL x l)) := by
  refine FC_intro hty Tryz.func135 rfl rfl rfl fun w0 => ?_
  have r0 : (rsI (x :: l))[0]? = some [.int .i64 x] := rfl
  have hn : ¬ ((rsI (x :: l)).length : Int) < 1 := by rw [rsI_length, List.length_cons]; omega
  repeat' (first | exact absurd (by assumption) hn | refine WL_m rfl (m_idxN (i := 0) hty rfl rfl rfl r0 rfl) ?_ | refine WL_p hty rfl rfl ?_ | refine WL_nil ?_ | refine AC_seq ?_ | refine AC_region ?_ | refine AC_block ?_ | refine AC_skip ?_ | refine AC_condT rfl ?_ | refine AC_condF rfl ?_ | refine AC_exit ?_ | refine AC_ret ?_ | refine WL_m rfl (m_idxN hty rfl rfl rfl (by assumption) rfl) ?_ | refine ends_bool rfl ?_ | refine WL_cmp rfl rfl rfl rfl (fun _ => ?_) (fun _ => ?_) | refine AC_cond rfl (fun _ => ?_) (fun _ => ?_))
  refine AC_for l.length (fun _ => True) (fun i => ⟨envOf [(0, .lst 1 (rsI (x :: l)) false), (3, .int .i64 (maxL x (l.take i))), (4, .int .i64 ((i + 1 : Nat) : Int))], bkOf []⟩)
    (less_sub ⟨⟨_, rfl, .inl ⟨.refl _, rfl⟩⟩, ⟨_, rfl, .inl ⟨.refl _, rfl⟩⟩, ⟨_, rfl, .inl ⟨.refl _, rfl⟩⟩, trivial⟩ trivial) trivial ?_
  intro i hi _
  repeat' (first | refine WL_p hty rfl rfl ?_ | refine WL_nil ?_ | refine AC_seq ?_ | refine AC_region ?_ | refine AC_block ?_ | refine AC_skip ?_ | refine AC_condT rfl ?_ | refine AC_condF rfl ?_ | refine AC_exit ?_ | refine AC_ret ?_ | refine WL_m rfl (m_idxN hty rfl rfl rfl (by assumption) rfl) ?_ | refine ends_bool rfl ?_)
  refine WL_cmp rfl rfl rfl rfl (fun hc => ?_) (fun hc => ?_)
  · have hlt : i < l.length := by rw [rsI_length, List.length_cons] at hc; omega
    have hy : l[i]? = some l[i] := List.getElem?_eq_getElem hlt
    have ry : (rsI (x :: l))[i + 1]? = some [.int .i64 l[i]] := rsI_get (l := x :: l) (i := i + 1) (by simp)
    repeat' (first | refine WL_m rfl (m_idxN (i := i + 1) hty rfl rfl rfl ry rfl) ?_ | refine WL_m rfl (m_max rfl rfl rfl) ?_ | refine WL_p hty rfl rfl ?_ | refine WL_nil ?_ | refine AC_seq ?_ | refine AC_region ?_ | refine AC_block ?_ | refine AC_skip ?_ | refine AC_condT rfl ?_ | refine AC_condF rfl ?_ | refine AC_exit ?_ | refine AC_ret ?_ | refine WL_m rfl (m_idxN hty rfl rfl rfl (by assumption) rfl) ?_ | refine ends_bool rfl ?_ | refine WL_cmp rfl rfl rfl rfl (fun _ => ?_) (fun _ => ?_) | refine AC_cond rfl (fun _ => ?_) (fun _ => ?_))
    refine ⟨hlt, trivial, (less_sub ⟨⟨_, rfl, .inl ⟨.refl _, rfl⟩⟩, ⟨_, rfl, see_eq ?_ rfl⟩, ⟨_, rfl, see_eq ?_ rfl⟩, trivial⟩ trivial)⟩
    · refine congrArg (AV.int .i64) ?_
      rw [List.take_add_one, hy, Option.toList_some, maxL_append]
      rfl
    · exact congrArg (AV.int .i64) ((wrap_ok (by omega) (by omega)).trans (by omega))
  · obtain rfl : i = l.length := by rw [rsI_length, List.length_cons] at hc; omega
    repeat' (first | refine WL_p hty rfl rfl ?_ | refine WL_nil ?_ | refine AC_seq ?_ | refine AC_region ?_ | refine AC_block ?_ | refine AC_skip ?_ | refine AC_condT rfl ?_ | refine AC_condF rfl ?_ | refine AC_exit ?_ | refine AC_ret ?_ | refine WL_m rfl (m_idxN hty rfl rfl rfl (by assumption) rfl) ?_ | refine ends_bool rfl ?_ | refine WL_cmp rfl rfl rfl rfl (fun _ => ?_) (fun _ => ?_) | refine AC_cond rfl (fun _ => ?_) (fun _ => ?_))
    refine ends_int rfl ?_
    rw [List.take_length]

/-! all terms of arguments -/
def tmsA (a : Ar) : List Tm := a.typ :: (a.dom ++ a.idx)
def termsA (l : List Ar) : List Tm := l.flatMap tmsA
theorem termsA_next {l : List Ar} {i : Nat} {a : Ar} (h : l[i]? = some a) : termsA (l.take (i + 1)) = termsA (l.take i) ++ tmsA a := by
  unfold termsA
  rw [List.take_add_one, h, Option.toList_some, List.flatMap_append]
  simp
theorem tmsA_size (a : Ar) : sizes (tmsA a) ≤ a.size := by
  unfold tmsA Ar.size
  simp only [sizes, sizes_append]; omega
theorem termsA_size (l : List Ar) : sizes (termsA l) ≤ sizesA l := by
  induction l with
  | nil => exact Nat.le_refl _
  | cons a l ih =>
    have := tmsA_size a
    unfold termsA at *
    rw [List.flatMap_cons, sizes_append]
    simp only [sizesA]; omega
theorem termsA_take (l : List Ar) (i : Nat) : sizes (termsA (l.take i)) + sizes (termsA (l.drop i)) = sizes (termsA l) := by
  conv => rhs; rw [← List.take_append_drop i l]
  unfold termsA
  rw [List.flatMap_append, sizes_append]

set_option maxHeartbeats 4000000 in
theorem termsOf_spec (l : List Ar) (hl : sizesA l ≤ 1048576) : FC Tryz.prog 134 [sA l] (.lst 3 (rsT (termsA l)) false) := by
  have hlen := len_le_sizesA l
  refine FC_intro hty Tryz.func134 rfl rfl rfl fun w0 => ?_
  repeat' (first | refine WL_p hty rfl rfl ?_ | refine WL_nil ?_ | refine AC_seq ?_ | refine AC_region ?_ | refine AC_block ?_ | refine AC_skip ?_ | refine AC_condT rfl ?_ | refine AC_condF rfl ?_ | refine AC_exit ?_ | refine AC_ret ?_ | refine WL_m rfl (m_idxN hty rfl rfl rfl (by assumption) rfl) ?_ | refine ends_bool rfl ?_ | refine WL_cmp rfl rfl rfl rfl (fun _ => ?_) (fun _ => ?_) | refine AC_cond rfl (fun _ => ?_) (fun _ => ?_))
  refine AC_less (less_gone 103 rfl) ?_
  refine AC_for l.length (fun _ => True) (fun i => ⟨envOf [(3, grV 103 3 (rsT (termsA (l.take i)))), (6, sA l), (7, .int .i64 ((rsA l).length : Nat)), (8, .int .i64 (i : Nat))], bkOf [(103, grB 24 3 (rsT (termsA (l.take i))))]⟩)
    (less_sub ⟨⟨_, rfl, .inl ⟨.nil _ _ _, rfl⟩⟩, ⟨_, rfl, .inl ⟨.refl _, rfl⟩⟩, ⟨_, rfl, .inl ⟨.refl _, rfl⟩⟩, ⟨_, rfl, .inl ⟨.refl _, rfl⟩⟩, trivial⟩ ⟨⟨⟨_, rfl, .refl _⟩, rfl⟩, trivial⟩) trivial ?_
  intro i hi _
  repeat' (first | refine WL_p hty rfl rfl ?_ | refine WL_nil ?_ | refine AC_seq ?_ | refine AC_region ?_ | refine AC_block ?_ | refine AC_skip ?_ | refine AC_condT rfl ?_ | refine AC_condF rfl ?_ | refine AC_exit ?_ | refine AC_ret ?_ | refine WL_m rfl (m_idxN hty rfl rfl rfl (by assumption) rfl) ?_ | refine ends_bool rfl ?_)
  refine WL_cmp rfl rfl rfl rfl (fun hc => ?_) (fun hc => ?_)
  · have hlt : i < l.length := by rw [rsA_length] at hc; omega
    obtain ⟨a, ha, hmem⟩ := get_of_lt hlt
    have ra := rsA_get ha
    have has := size_le_sizesA hmem
    unfold Ar.size at has
    have hd := len_le_sizes a.dom
    have hx := len_le_sizes a.idx
    have ht1 := termsA_take l i
    have ht2 := termsA_size l
    have ht3 := len_le_sizes (termsA (l.take i))
    repeat' (first | refine AC_drawnE (id := 5) tbNames134_5 rfl (by kernel_rfl) ?_ | refine WE_cons (.inl ⟨rfl, m_appG hty 301 rfl rfl rfl rfl rfl rfl rfl (by simp only [rsT_length, List.length_append, List.length_cons, List.length_nil]; omega) rfl rfl rfl⟩) ?_ | refine WE_cons (.inl ⟨rfl, m_appG hty 302 rfl rfl rfl rfl rfl rfl rfl (by simp only [rsT_length, List.length_append, List.length_cons, List.length_nil]; omega) rfl rfl rfl⟩) ?_ | refine WE_cons (.inl ⟨rfl, m_appG hty 303 rfl rfl rfl rfl rfl rfl rfl (by simp only [rsT_length, List.length_append, List.length_cons, List.length_nil]; omega) rfl rfl rfl⟩) ?_ | refine WE_cons (.inl ⟨rfl, stepE_ok hty rfl rfl⟩) ?_ | refine WE_nil ⟨by kernel_rfl, ?_⟩ | refine WL_p hty rfl rfl ?_ | refine WL_nil ?_ | refine AC_seq ?_ | refine AC_region ?_ | refine AC_block ?_ | refine AC_skip ?_ | refine AC_condT rfl ?_ | refine AC_condF rfl ?_ | refine AC_exit ?_ | refine AC_ret ?_ | refine WL_m rfl (m_idxN hty rfl rfl rfl (by assumption) rfl) ?_ | refine ends_bool rfl ?_ | refine WL_cmp rfl rfl rfl rfl (fun _ => ?_) (fun _ => ?_) | refine AC_cond rfl (fun _ => ?_) (fun _ => ?_))
    have hnx : rsT (termsA (l.take i)) ++ [cT a.typ] ++ rsT a.dom ++ rsT a.idx = rsT (termsA (l.take (i + 1))) := by
      rw [termsA_next ha, rsT_append]
      simp only [tmsA, rsT, rT_eq, rsT_append, List.append_assoc, List.cons_append, List.nil_append]
    refine ⟨hlt, trivial, (less_ren [(103, 303)] rfl ⟨⟨_, rfl, .inl ⟨wk_gr rfl ?_, keep_gr rfl⟩⟩, ⟨_, rfl, .inl ⟨.refl _, rfl⟩⟩, ⟨_, rfl, .inl ⟨.refl _, rfl⟩⟩, ⟨_, rfl, see_eq ?_ rfl⟩, trivial⟩ ⟨⟨⟨_, rfl, wkB_gr ?_⟩, keepB_gr⟩, trivial⟩)⟩
    · exact hnx
    · exact congrArg (AV.int .i64) ((wrap_ok (by omega) (by omega)).trans (by omega))
    · exact hnx
  · obtain rfl : i = l.length := by rw [rsA_length] at hc; omega
    repeat' (first | refine WL_less (less_gr 3 103 rfl rfl) ?_ | refine WL_p hty rfl rfl ?_ | refine WL_nil ?_ | refine AC_seq ?_ | refine AC_region ?_ | refine AC_block ?_ | refine AC_skip ?_ | refine AC_condT rfl ?_ | refine AC_condF rfl ?_ | refine AC_exit ?_ | refine AC_ret ?_ | refine WL_m rfl (m_idxN hty rfl rfl rfl (by assumption) rfl) ?_ | refine ends_bool rfl ?_ | refine WL_cmp rfl rfl rfl rfl (fun _ => ?_) (fun _ => ?_) | refine AC_cond rfl (fun _ => ?_) (fun _ => ?_))
    refine ends_is rfl rfl ?_
    rw [List.take_length]

/-! the constants of a term, in order -/
def keysI (l : List Int) : AV := match l with
  | [] => .lst 1 [] true
  | x :: r => .own 3 1 (rsI (x :: r)) true
def nokeys : Int → Option AV := fun _ => none
def IsKeys (f : Int → Option AV) (n : Nat) (r : AV) : Prop := ∃ zs : List Int, (∀ i, i ∈ zs ↔ (f i).isSome = true) ∧ zs.length ≤ n ∧ r = keysI zs

set_option maxHeartbeats 4000000 in
theorem tConsts_spec (t : Tm) (hs : t.size ≤ 1048576) (hfm : okN t = true) : RC Tryz.prog 136 [aT t] (IsKeys (conT t nokeys) t.size) := by
  have hc := consts_all 1048576 (Nat.le_refl _) t 0 nokeys hs hfm (by omega)
  have hcl := cntT_le t
  rw [Nat.zero_add] at hc
  refine RC_intro hty Tryz.func136 rfl rfl rfl fun w0 => ?_
  repeat' (first | refine WL_m rfl (m_makeMapO 50 rfl rfl) ?_ | refine WL_m rfl (m_callM 50 rfl rfl rfl hc rfl rfl) ?_ | refine WL_m rfl (m_keys sortedOf 60 rfl rfl rfl) ?_ | refine WL_sorted sortedOf hint 70 rfl rfl rfl rfl (by omega) rfl (fun h0 => ?_) (fun zs hne hl hmem => ?_) | refine WL_p hty rfl rfl ?_ | refine WL_nil ?_ | refine AC_seq ?_ | refine AC_region ?_ | refine AC_skip ?_ | refine AC_ret ?_ | refine ends_bool rfl ?_)
  · exact ⟨.lst 1 [] true, ⟨[], fun i => by rw [h0 i]; simp, Nat.zero_le _, rfl⟩, ends_is rfl rfl rfl⟩
  · cases zs with
    | nil => exact absurd rfl hne
    | cons x r => exact ⟨.own 3 1 (rsI (x :: r)) true, ⟨x :: r, hmem, Nat.le_trans hl hcl, rfl⟩, ends_own rfl rfl rfl⟩

end Go.Proofs.YtlonpgdnmngnmaaGreat

/-
  The greatest constant that a block names.
-/
namespace Go.Proofs.YtlonpgdnmngnmaaGreat
set_option linter.unusedSimpArgs false
set_option linter.unusedVariables false
open Go.Aw Go.RowKit
def tbNames291_5 : List (Nat × List Nat) := [(0, []), (1, []), (2, [1]), (3, [1, 2]), (4, [0, 1, 2, 3]), (5, []), (6, [5]), (7, [0, 1, 2, 3, 4, 5, 6]), (8, [0, 1, 2, 3, 4, 5, 6, 7]), (9, [0, 1, 2, 3, 4, 5, 6, 7, 8])]
def tbNames291_10 : List (Nat × List Nat) := [(0, []), (1, []), (2, [1]), (3, [1, 2]), (4, [0, 1, 2, 3]), (5, []), (6, [5]), (7, [0, 1, 2, 3, 4, 5, 6]), (8, []), (9, [8]), (10, [0, 1, 2, 3, 4, 5, 6, 7, 8, 9]), (11, [0, 1, 2, 3, 4, 5, 6, 7, 8, 9, 10]), (12, [0, 1, 2, 3, 4, 5, 6, 7, 8, 9, 10, 11])]
attribute [local irreducible] WL AC WD WE MStep OkOp

/-! the greatest constant of a term -/
mutual
def mostT : Tm → Int → Int
  | .mk k n l, a => mostTs l (if k = 3 then gI a n else a)
def mostTs : List Tm → Int → Int
  | [], a => a
  | t :: l, a => mostTs l (mostT t a)
end
theorem mostTs_append (l m : List Tm) : ∀ a : Int, mostTs (l ++ m) a = mostTs m (mostTs l a) := by
  induction l with
  | nil => intro a; rfl
  | cons t l ih => intro a; exact ih (mostT t a)
theorem gI_le (a b : Int) : a ≤ gI a b ∧ b ≤ gI a b := by unfold gI; split <;> omega
theorem gI_or (a b : Int) : gI a b = a ∨ gI a b = b := by unfold gI; split <;> simp
mutual
theorem mostT_g : ∀ (t : Tm) (a b : Int), mostT t (gI a b) = gI a (mostT t b)
  | .mk k n l, a, b => by
    rw [mostT, mostT]
    split
    · rw [show gI (gI a b) n = gI a (gI b n) by unfold gI; split <;> split <;> (try split) <;> omega]
      exact mostTs_g l a _
    · exact mostTs_g l a b
theorem mostTs_g : ∀ (l : List Tm) (a b : Int), mostTs l (gI a b) = gI a (mostTs l b)
  | [], _, _ => rfl
  | t :: l, a, b => by rw [mostTs, mostT_g t, mostTs_g l]; rfl
end
mutual
theorem mostT_ge : ∀ (t : Tm) (a : Int), a ≤ mostT t a
  | .mk k n l, a => by
    rw [mostT]
    refine Int.le_trans ?_ (mostTs_ge l (if k = 3 then gI a n else a))
    split
    · exact (gI_le a n).1
    · exact Int.le_refl a
theorem mostTs_ge : ∀ (l : List Tm) (a : Int), a ≤ mostTs l a
  | [], a => Int.le_refl a
  | t :: l, a => Int.le_trans (mostT_ge t a) (mostTs_ge l (mostT t a))
end

def Up (f : Int → Option AV) (a : Int) : Prop := (∀ i, (f i).isSome = true → i ≤ a) ∧ (a = -1 ∨ (f a).isSome = true)
theorem Up.put {f : Int → Option AV} {a n : Int} {v : AV} (h : Up f a) : Up (putF f n v) (gI a n) := by
  obtain ⟨h1, h2⟩ := h
  obtain ⟨g1, g2⟩ := gI_le a n
  refine ⟨fun i hi => ?_, ?_⟩
  · unfold putF at hi
    split at hi
    · rename_i e; rw [e]; exact g2
    · exact Int.le_trans (h1 i hi) g1
  · unfold putF
    rcases gI_or a n with e | e
    · rw [e]
      rcases h2 with h2 | h2
      · exact .inl h2
      · right; split
        · rfl
        · exact h2
    · rw [e]; right; rw [if_pos rfl]; rfl
mutual
theorem up_conT : ∀ (t : Tm) {f : Int → Option AV} {a : Int}, Up f a → Up (conT t f) (mostT t a)
  | .mk k n l, f, a, h => by
    rw [conT, mostT]
    refine up_conTs l ?_
    split
    · exact h.put
    · exact h
theorem up_conTs : ∀ (l : List Tm) {f : Int → Option AV} {a : Int}, Up f a → Up (conTs l f) (mostTs l a)
  | [], _, _, h => h
  | t :: l, f, a, h => by rw [conTs, mostTs]; exact up_conTs l (up_conT t h)
end
theorem maxL_is : ∀ (l : List Int) (x : Int), (x ≤ maxL x l ∧ ∀ y, y ∈ l → y ≤ maxL x l) ∧ (maxL x l = x ∨ maxL x l ∈ l)
  | [], x => ⟨⟨Int.le_refl x, fun y h => by cases h⟩, .inl rfl⟩
  | b :: l, x => by
    obtain ⟨⟨h1, h2⟩, h3⟩ := maxL_is l (gI x b)
    obtain ⟨g1, g2⟩ := gI_le x b
    rw [maxL]
    refine ⟨⟨Int.le_trans g1 h1, fun y hy => ?_⟩, ?_⟩
    · rcases List.mem_cons.1 hy with rfl | hy
      · exact Int.le_trans g2 h1
      · exact h2 y hy
    · rcases h3 with h3 | h3
      · rcases gI_or x b with e | e
        · left; rw [h3, e]
        · right; rw [h3, e]; exact List.mem_cons_self
      · exact .inr (List.mem_cons_of_mem _ h3)
/-- The greatest of the keys, and of -1. -/
theorem maxL_keys {f : Int → Option AV} {a : Int} (h : Up f a) (ha : -1 ≤ a) {x : Int} {l : List Int} (hm : ∀ i, i ∈ (x :: l) ↔ i = -1 ∨ (f i).isSome = true) : maxL x l = a := by
  obtain ⟨⟨h1, h2⟩, h3⟩ := maxL_is l x
  have hle : ∀ i, i ∈ (x :: l) → i ≤ maxL x l := fun i hi => by
    rcases List.mem_cons.1 hi with rfl | hi
    · exact h1
    · exact h2 i hi
  have hin : maxL x l ∈ (x :: l) := by
    rcases h3 with h3 | h3
    · rw [h3]; exact List.mem_cons_self
    · exact List.mem_cons_of_mem _ h3
  apply Int.le_antisymm
  · rcases (hm _).1 hin with e | e
    · rw [e]; exact ha
    · exact h.1 _ e
  · refine hle a ((hm a).2 ?_)
    exact h.2

/-! all terms of a block -/
def tmsS (s : Sr) : List Tm := s.decT :: termsA s.idx
def tmsC (c : Cn) : List Tm := c.dec :: (c.idx ++ termsA c.args)
def termsS (l : List Sr) : List Tm := l.flatMap tmsS
def termsC (l : List Cn) : List Tm := l.flatMap tmsC
def termsB (b : Bl) : List Tm := termsS b.sorts ++ termsC b.cons
theorem SrT_size (a : Sr) : sizes (termsA a.idx) ≤ sizesA a.idx := termsA_size _
theorem CnT_size (a : Cn) : sizes (termsA a.args) ≤ sizesA a.args := termsA_size _
theorem termsS_next {l : List Sr} {i : Nat} {a : Sr} (h : l[i]? = some a) : termsS (l.take (i + 1)) = termsS (l.take i) ++ tmsS a := by
  unfold termsS
  rw [List.take_add_one, h, Option.toList_some, List.flatMap_append]
  simp
theorem termsS_take (l : List Sr) (i : Nat) : sizes (termsS (l.take i)) + sizes (termsS (l.drop i)) = sizes (termsS l) := by
  conv => rhs; rw [← List.take_append_drop i l]
  unfold termsS
  rw [List.flatMap_append, sizes_append]
theorem tmsS_size (a : Sr) : sizes (tmsS a) ≤ a.size := by
  unfold tmsS Sr.size
  have h1 := SrT_size a
  simp only [sizes, sizes_append]; omega
theorem termsS_size (l : List Sr) : sizes (termsS l) ≤ sizesS l := by
  induction l with
  | nil => exact Nat.le_refl _
  | cons a l ih =>
    have := tmsS_size a
    unfold termsS at *
    rw [List.flatMap_cons, sizes_append]
    simp only [sizesS]; omega
theorem termsC_next {l : List Cn} {i : Nat} {a : Cn} (h : l[i]? = some a) : termsC (l.take (i + 1)) = termsC (l.take i) ++ tmsC a := by
  unfold termsC
  rw [List.take_add_one, h, Option.toList_some, List.flatMap_append]
  simp
theorem termsC_take (l : List Cn) (i : Nat) : sizes (termsC (l.take i)) + sizes (termsC (l.drop i)) = sizes (termsC l) := by
  conv => rhs; rw [← List.take_append_drop i l]
  unfold termsC
  rw [List.flatMap_append, sizes_append]
theorem tmsC_size (a : Cn) : sizes (tmsC a) ≤ a.size := by
  unfold tmsC Cn.size
  have h1 := CnT_size a
  simp only [sizes, sizes_append]; omega
theorem termsC_size (l : List Cn) : sizes (termsC l) ≤ sizesC l := by
  induction l with
  | nil => exact Nat.le_refl _
  | cons a l ih =>
    have := tmsC_size a
    unfold termsC at *
    rw [List.flatMap_cons, sizes_append]
    simp only [sizesC]; omega
def namesB (b : Bl) : Int := mostTs (termsB b) (-1)
theorem grO_keys {f : Int → Option AV} {a : Int} (h : Up f a) (ha : -1 ≤ a) {zs : List Int} (hm : ∀ i, i ∈ zs ↔ (f i).isSome = true) : ∃ x l, zs ++ [-1] = x :: l ∧ maxL x l = a := by
  have key : ∀ x l, zs ++ [-1] = x :: l → maxL x l = a := fun x l e => maxL_keys h ha (fun i => by
    rw [← e, List.mem_append, hm i, List.mem_singleton]
    exact Or.comm)
  cases zs with
  | nil => exact ⟨-1, [], rfl, key _ _ rfl⟩
  | cons x l => exact ⟨x, l ++ [-1], rfl, key _ _ rfl⟩
theorem up_none : Up nokeys (-1) := ⟨fun i h => by (cases h), .inl rfl⟩

set_option maxHeartbeats 8000000 in
theorem names_spec (b : Bl) (hb : b.size ≤ 1048576) (hok : ∀ t, t ∈ termsB b → okN t = true) : FC Tryz.prog 91 [aB b] (.int .i64 (namesB b)) := by
  unfold Bl.size at hb
  have hsl := len_le_sizesS b.sorts
  have hcl := len_le_sizesC b.cons
  have hs2 := termsS_size b.sorts
  have hc2 := termsC_size b.cons
  refine FC_intro hty Tryz.func91 rfl rfl rfl fun w0 => ?_
  repeat' (first | refine WL_p hty rfl rfl ?_ | refine WL_nil ?_ | refine AC_seq ?_ | refine AC_region ?_ | refine AC_block ?_ | refine AC_skip ?_ | refine AC_condT rfl ?_ | refine AC_condF rfl ?_ | refine AC_exit ?_ | refine AC_ret ?_ | refine WL_m rfl (m_idxN hty rfl rfl rfl (by assumption) rfl) ?_ | refine ends_bool rfl ?_ | refine WL_cmp rfl rfl rfl rfl (fun _ => ?_) (fun _ => ?_) | refine AC_cond rfl (fun _ => ?_) (fun _ => ?_))
  refine AC_less (less_gone 103 rfl) ?_
  refine AC_for b.sorts.length (fun _ => True) (fun i => ⟨envOf [(1, .ptr 1 0), (3, grV 103 3 (rsT (termsS (b.sorts.take i)))), (12, sS b.sorts), (13, .int .i64 ((rsS b.sorts).length : Nat)), (14, .int .i64 (i : Nat))], bkOf [(1, .box (cB b)), (103, grB 24 3 (rsT (termsS (b.sorts.take i))))]⟩)
    (less_sub ⟨⟨_, rfl, .inl ⟨.refl _, rfl⟩⟩, ⟨_, rfl, .inl ⟨.nil _ _ _, rfl⟩⟩, ⟨_, rfl, .inl ⟨.refl _, rfl⟩⟩, ⟨_, rfl, .inl ⟨.refl _, rfl⟩⟩, ⟨_, rfl, .inl ⟨.refl _, rfl⟩⟩, trivial⟩ ⟨⟨⟨_, rfl, .refl _⟩, rfl⟩, ⟨⟨_, rfl, .refl _⟩, rfl⟩, trivial⟩) trivial ?_
  · intro i hi _
    repeat' (first | refine WL_p hty rfl rfl ?_ | refine WL_nil ?_ | refine AC_seq ?_ | refine AC_region ?_ | refine AC_block ?_ | refine AC_skip ?_ | refine AC_condT rfl ?_ | refine AC_condF rfl ?_ | refine AC_exit ?_ | refine AC_ret ?_ | refine WL_m rfl (m_idxN hty rfl rfl rfl (by assumption) rfl) ?_ | refine ends_bool rfl ?_)
    refine WL_cmp rfl rfl rfl rfl (fun hc => ?_) (fun hc => ?_)
    · have hlt : i < b.sorts.length := by rw [rsS_length] at hc; omega
      obtain ⟨a, ha, hmem⟩ := get_of_lt hlt
      have ra := rsS_get ha
      have has := size_le_sizesS hmem
      unfold Sr.size at has
      have ht := termsOf_spec a.idx (by omega)
      have hx := len_le_sizes (termsA a.idx)
      have hx2 := termsA_size a.idx
      have ht1 := termsS_take b.sorts i
      have ht3 := len_le_sizes (termsS (b.sorts.take i))
      repeat' (first | refine AC_drawnE (id := 5) tbNames291_5 rfl (by kernel_rfl) ?_ | refine WE_cons (.inl ⟨rfl, m_call 0 rfl ht rfl rfl rfl⟩) ?_ | refine WE_cons (.inl ⟨rfl, m_appG hty 301 rfl rfl rfl rfl rfl rfl rfl (by simp only [rsT_length, List.length_append, List.length_cons, List.length_nil]; omega) rfl rfl rfl⟩) ?_ | refine WE_cons (.inl ⟨rfl, m_appG hty 302 rfl rfl rfl rfl rfl rfl rfl (by simp only [rsT_length, List.length_append, List.length_cons, List.length_nil]; omega) rfl rfl rfl⟩) ?_ | refine WE_cons (.inl ⟨rfl, stepE_ok hty rfl rfl⟩) ?_ | refine WE_nil ⟨by kernel_rfl, ?_⟩ | refine WL_p hty rfl rfl ?_ | refine WL_nil ?_ | refine AC_seq ?_ | refine AC_region ?_ | refine AC_block ?_ | refine AC_skip ?_ | refine AC_condT rfl ?_ | refine AC_condF rfl ?_ | refine AC_exit ?_ | refine AC_ret ?_ | refine WL_m rfl (m_idxN hty rfl rfl rfl (by assumption) rfl) ?_ | refine ends_bool rfl ?_ | refine WL_cmp rfl rfl rfl rfl (fun _ => ?_) (fun _ => ?_) | refine AC_cond rfl (fun _ => ?_) (fun _ => ?_))
      have hnx : rsT (termsS (b.sorts.take i)) ++ [cT a.decT] ++ rsT (termsA a.idx) = rsT (termsS (b.sorts.take (i + 1))) := by
        rw [termsS_next ha, rsT_append]
        simp only [tmsS, rsT, rT_eq, rsT_append, List.append_assoc, List.cons_append, List.nil_append]
      refine ⟨hlt, trivial, (less_ren [(103, 302)] rfl ⟨⟨_, rfl, .inl ⟨.refl _, rfl⟩⟩, ⟨_, rfl, .inl ⟨wk_gr rfl ?_, keep_gr rfl⟩⟩, ⟨_, rfl, .inl ⟨.refl _, rfl⟩⟩, ⟨_, rfl, .inl ⟨.refl _, rfl⟩⟩, ⟨_, rfl, see_eq ?_ rfl⟩, trivial⟩ ⟨⟨⟨_, rfl, .refl _⟩, rfl⟩, ⟨⟨_, rfl, wkB_gr ?_⟩, keepB_gr⟩, trivial⟩)⟩
      · exact hnx
      · exact congrArg (AV.int .i64) ((wrap_ok (by omega) (by omega)).trans (by omega))
      · exact hnx
    · obtain rfl : i = b.sorts.length := by rw [rsS_length] at hc; omega
      repeat' (first | refine WL_p hty rfl rfl ?_ | refine WL_nil ?_ | refine AC_seq ?_ | refine AC_region ?_ | refine AC_block ?_ | refine AC_skip ?_ | refine AC_condT rfl ?_ | refine AC_condF rfl ?_ | refine AC_exit ?_ | refine AC_ret ?_ | refine WL_m rfl (m_idxN hty rfl rfl rfl (by assumption) rfl) ?_ | refine ends_bool rfl ?_ | refine WL_cmp rfl rfl rfl rfl (fun _ => ?_) (fun _ => ?_) | refine AC_cond rfl (fun _ => ?_) (fun _ => ?_))
      refine AC_for b.cons.length (fun _ => True) (fun i => ⟨envOf [(3, grV 103 3 (rsT (termsS b.sorts ++ termsC (b.cons.take i)))), (29, sC b.cons), (30, .int .i64 ((rsC b.cons).length : Nat)), (31, .int .i64 (i : Nat))], bkOf [(103, grB 24 3 (rsT (termsS b.sorts ++ termsC (b.cons.take i))))]⟩)
        (less_sub ⟨⟨_, rfl, .inl ⟨.of_eq (congrArg (grV _ _) ?_), keep_gr rfl⟩⟩, ⟨_, rfl, .inl ⟨.refl _, rfl⟩⟩, ⟨_, rfl, .inl ⟨.refl _, rfl⟩⟩, ⟨_, rfl, .inl ⟨.refl _, rfl⟩⟩, trivial⟩ ⟨⟨⟨_, rfl, .of_eq (congrArg (grB _ _) ?_)⟩, keepB_gr⟩, trivial⟩) trivial ?_
      · rw [List.take_length]; exact congrArg rsT (List.append_nil _).symm
      · rw [List.take_length]; exact congrArg rsT (List.append_nil _).symm
      intro i hi _
      repeat' (first | refine WL_p hty rfl rfl ?_ | refine WL_nil ?_ | refine AC_seq ?_ | refine AC_region ?_ | refine AC_block ?_ | refine AC_skip ?_ | refine AC_condT rfl ?_ | refine AC_condF rfl ?_ | refine AC_exit ?_ | refine AC_ret ?_ | refine WL_m rfl (m_idxN hty rfl rfl rfl (by assumption) rfl) ?_ | refine ends_bool rfl ?_)
      refine WL_cmp rfl rfl rfl rfl (fun hc => ?_) (fun hc => ?_)
      · have hlt : i < b.cons.length := by rw [rsC_length] at hc; omega
        obtain ⟨a, ha, hmem⟩ := get_of_lt hlt
        have ra := rsC_get ha
        have has := size_le_sizesC hmem
        unfold Cn.size at has
        have ht := termsOf_spec a.args (by omega)
        have hx := len_le_sizes (termsA a.args)
        have hx2 := termsA_size a.args
        have hx3 := len_le_sizes a.idx
        have ht0 := len_le_sizes (termsS b.sorts)
        have ht1 := termsC_take b.cons i
        have ht3 := len_le_sizes (termsC (b.cons.take i))
        repeat' (first | refine AC_drawnE (id := 10) tbNames291_10 rfl (by kernel_rfl) ?_ | refine WE_cons (.inl ⟨rfl, m_call 0 rfl ht rfl rfl rfl⟩) ?_ | refine WE_cons (.inl ⟨rfl, m_appG hty 301 rfl rfl rfl rfl rfl rfl rfl (by simp only [rsT_length, List.length_append, List.length_cons, List.length_nil]; omega) rfl rfl rfl⟩) ?_ | refine WE_cons (.inl ⟨rfl, m_appG hty 302 rfl rfl rfl rfl rfl rfl rfl (by simp only [rsT_length, List.length_append, List.length_cons, List.length_nil]; omega) rfl rfl rfl⟩) ?_ | refine WE_cons (.inl ⟨rfl, m_appG hty 303 rfl rfl rfl rfl rfl rfl rfl (by simp only [rsT_length, List.length_append, List.length_cons, List.length_nil]; omega) rfl rfl rfl⟩) ?_ | refine WE_cons (.inl ⟨rfl, stepE_ok hty rfl rfl⟩) ?_ | refine WE_nil ⟨by kernel_rfl, ?_⟩ | refine WL_p hty rfl rfl ?_ | refine WL_nil ?_ | refine AC_seq ?_ | refine AC_region ?_ | refine AC_block ?_ | refine AC_skip ?_ | refine AC_condT rfl ?_ | refine AC_condF rfl ?_ | refine AC_exit ?_ | refine AC_ret ?_ | refine WL_m rfl (m_idxN hty rfl rfl rfl (by assumption) rfl) ?_ | refine ends_bool rfl ?_ | refine WL_cmp rfl rfl rfl rfl (fun _ => ?_) (fun _ => ?_) | refine AC_cond rfl (fun _ => ?_) (fun _ => ?_))
        have hnx : rsT (termsS b.sorts ++ termsC (b.cons.take i)) ++ [cT a.dec] ++ rsT a.idx ++ rsT (termsA a.args) = rsT (termsS b.sorts ++ termsC (b.cons.take (i + 1))) := by
          rw [termsC_next ha, rsT_append, rsT_append, rsT_append]
          simp only [tmsC, rsT, rT_eq, rsT_append, List.append_assoc, List.cons_append, List.nil_append]
        refine ⟨hlt, trivial, (less_ren [(103, 303)] rfl ⟨⟨_, rfl, .inl ⟨wk_gr rfl ?_, keep_gr rfl⟩⟩, ⟨_, rfl, .inl ⟨.refl _, rfl⟩⟩, ⟨_, rfl, .inl ⟨.refl _, rfl⟩⟩, ⟨_, rfl, see_eq ?_ rfl⟩, trivial⟩ ⟨⟨⟨_, rfl, wkB_gr ?_⟩, keepB_gr⟩, trivial⟩)⟩
        · exact hnx
        · exact congrArg (AV.int .i64) ((wrap_ok (by omega) (by omega)).trans (by omega))
        · exact hnx
      · obtain rfl : i = b.cons.length := by rw [rsC_length] at hc; omega
        have htb : termsS b.sorts ++ termsC (b.cons.take b.cons.length) = termsB b := by rw [List.take_length]; rfl
        have hts : sizes (termsB b) ≤ 1048576 := by unfold termsB; rw [sizes_append]; omega
        have htl := len_le_sizes (termsB b)
        rw [htb]
        repeat' (first | refine WL_less (less_gr 3 103 rfl rfl) ?_ | refine WL_p hty rfl rfl ?_ | refine WL_nil ?_ | refine AC_seq ?_ | refine AC_region ?_ | refine AC_block ?_ | refine AC_skip ?_ | refine AC_condT rfl ?_ | refine AC_condF rfl ?_ | refine AC_exit ?_ | refine AC_ret ?_ | refine WL_m rfl (m_idxN hty rfl rfl rfl (by assumption) rfl) ?_ | refine ends_bool rfl ?_ | refine WL_cmp rfl rfl rfl rfl (fun _ => ?_) (fun _ => ?_) | refine AC_cond rfl (fun _ => ?_) (fun _ => ?_))
        refine AC_for (termsB b).length (fun _ => True) (fun i => ⟨envOf [(8, .int .i64 (mostTs ((termsB b).take i) (-1))), (48, sT (termsB b)), (49, .int .i64 ((rsT (termsB b)).length : Nat)), (50, .int .i64 (i : Nat))], bkOf []⟩)
          (less_sub ⟨⟨_, rfl, .inl ⟨.refl _, rfl⟩⟩, ⟨_, rfl, .inl ⟨.refl _, rfl⟩⟩, ⟨_, rfl, .inl ⟨.refl _, rfl⟩⟩, ⟨_, rfl, .inl ⟨.refl _, rfl⟩⟩, trivial⟩ trivial) trivial ?_
        intro i hi _
        repeat' (first | refine WL_p hty rfl rfl ?_ | refine WL_nil ?_ | refine AC_seq ?_ | refine AC_region ?_ | refine AC_block ?_ | refine AC_skip ?_ | refine AC_condT rfl ?_ | refine AC_condF rfl ?_ | refine AC_exit ?_ | refine AC_ret ?_ | refine WL_m rfl (m_idxN hty rfl rfl rfl (by assumption) rfl) ?_ | refine ends_bool rfl ?_)
        refine WL_cmp rfl rfl rfl rfl (fun hc => ?_) (fun hc => ?_)
        · have hlt : i < (termsB b).length := by rw [rsT_length] at hc; omega
          obtain ⟨t, ht, hmem⟩ := get_of_lt hlt
          have rt := rsT_get ht
          have hts2 := size_le_sizes hmem
          have hcn := tConsts_spec t (by omega) (hok t hmem)
          have hnx : mostTs ((termsB b).take (i + 1)) (-1) = gI (mostTs ((termsB b).take i) (-1)) (mostT t (-1)) := by
            rw [List.take_add_one, ht, Option.toList_some, mostTs_append]
            show mostT t _ = _
            rw [← mostT_g]
            congr 1
            have := mostTs_ge ((termsB b).take i) (-1)
            unfold gI; rw [if_neg (by omega)]
          repeat' (first | refine WL_callR 70 rfl hcn rfl (fun res hR => ?_) | refine WL_p hty rfl rfl ?_ | refine WL_nil ?_ | refine AC_seq ?_ | refine AC_region ?_ | refine AC_block ?_ | refine AC_skip ?_ | refine AC_condT rfl ?_ | refine AC_condF rfl ?_ | refine AC_exit ?_ | refine AC_ret ?_ | refine WL_m rfl (m_idxN hty rfl rfl rfl (by assumption) rfl) ?_ | refine ends_bool rfl ?_ | refine WL_cmp rfl rfl rfl rfl (fun _ => ?_) (fun _ => ?_) | refine AC_cond rfl (fun _ => ?_) (fun _ => ?_))
          obtain ⟨zs, hm, hzl, rfl⟩ := hR
          obtain ⟨x, l, hxl, hmx⟩ := grO_keys (up_conT t up_none) (mostT_ge t (-1)) hm
          have hll : l.length ≤ zs.length := by have := congrArg List.length hxl; simp at this; omega
          have hmc := slMax_spec x l (by omega)
          have e2 : rsI (x :: l) = rsI zs ++ [[.int .i64 (-1)]] := by rw [← hxl]; simp [rsI]
          rw [e2, hmx] at hmc
          have hlast : mostTs ((termsB b).take (i + 1)) (-1) = if mostT t (-1) > mostTs ((termsB b).take i) (-1) then mostT t (-1) else mostTs ((termsB b).take i) (-1) := hnx
          cases zs with
          | nil =>
            refine ⟨(.lst 1 [] true, []), rfl, rfl, ?_⟩
            repeat' (first | refine WL_m rfl (m_appF hty 301 rfl rfl rfl rfl rfl rfl rfl (List.cons_ne_nil _ _) (Nat.le_of_ble_eq_true rfl) rfl rfl rfl) ?_ | refine WL_less (less_freeze 301 rfl) (WL_call 0 rfl hmc rfl rfl rfl ?_) | refine WL_m rfl (m_max rfl rfl rfl) ?_ | refine WL_p hty rfl rfl ?_ | refine WL_nil ?_ | refine AC_seq ?_ | refine AC_region ?_ | refine AC_block ?_ | refine AC_skip ?_ | refine AC_condT rfl ?_ | refine AC_condF rfl ?_ | refine AC_exit ?_ | refine AC_ret ?_ | refine WL_m rfl (m_idxN hty rfl rfl rfl (by assumption) rfl) ?_ | refine ends_bool rfl ?_ | refine WL_cmp rfl rfl rfl rfl (fun _ => ?_) (fun _ => ?_) | refine AC_cond rfl (fun _ => ?_) (fun _ => ?_))
            refine ⟨hlt, trivial, (less_sub ⟨⟨_, rfl, see_eq ?_ rfl⟩, ⟨_, rfl, .inl ⟨.refl _, rfl⟩⟩, ⟨_, rfl, .inl ⟨.refl _, rfl⟩⟩, ⟨_, rfl, see_eq ?_ rfl⟩, trivial⟩ trivial)⟩
            · rw [hlast]
            · exact congrArg (AV.int .i64) ((wrap_ok (by omega) (by omega)).trans (by omega))
          | cons y r =>
            refine ⟨(.arr 70, [(70, .arr 3 1 (rsI (y :: r)) true)]), rfl, rfl, ?_⟩
            repeat' (first | refine WL_m rfl (m_appW hty 301 rfl rfl rfl rfl rfl rfl rfl rfl (List.cons_ne_nil _ _) (by rw [rsI_length]; show _ + 1 ≤ _; omega) rfl rfl rfl) ?_ | refine WL_less (less_freeze 301 rfl) (WL_call 0 rfl hmc rfl rfl rfl ?_) | refine WL_m rfl (m_max rfl rfl rfl) ?_ | refine WL_p hty rfl rfl ?_ | refine WL_nil ?_ | refine AC_seq ?_ | refine AC_region ?_ | refine AC_block ?_ | refine AC_skip ?_ | refine AC_condT rfl ?_ | refine AC_condF rfl ?_ | refine AC_exit ?_ | refine AC_ret ?_ | refine WL_m rfl (m_idxN hty rfl rfl rfl (by assumption) rfl) ?_ | refine ends_bool rfl ?_ | refine WL_cmp rfl rfl rfl rfl (fun _ => ?_) (fun _ => ?_) | refine AC_cond rfl (fun _ => ?_) (fun _ => ?_))
            refine ⟨hlt, trivial, (less_sub ⟨⟨_, rfl, see_eq ?_ rfl⟩, ⟨_, rfl, .inl ⟨.refl _, rfl⟩⟩, ⟨_, rfl, .inl ⟨.refl _, rfl⟩⟩, ⟨_, rfl, see_eq ?_ rfl⟩, trivial⟩ trivial)⟩
            · rw [hlast]
            · exact congrArg (AV.int .i64) ((wrap_ok (by omega) (by omega)).trans (by omega))
        · obtain rfl : i = (termsB b).length := by rw [rsT_length] at hc; omega
          repeat' (first | refine WL_p hty rfl rfl ?_ | refine WL_nil ?_ | refine AC_seq ?_ | refine AC_region ?_ | refine AC_block ?_ | refine AC_skip ?_ | refine AC_condT rfl ?_ | refine AC_condF rfl ?_ | refine AC_exit ?_ | refine AC_ret ?_ | refine WL_m rfl (m_idxN hty rfl rfl rfl (by assumption) rfl) ?_ | refine ends_bool rfl ?_ | refine WL_cmp rfl rfl rfl rfl (fun _ => ?_) (fun _ => ?_) | refine AC_cond rfl (fun _ => ?_) (fun _ => ?_))
          refine ends_int rfl ?_
          rw [List.take_length]; rfl

end Go.Proofs.YtlonpgdnmngnmaaGreat

/-
  What is more than is played, of blocks.
-/
namespace Go.Proofs.YtlonpgdnmngnmaaGreat
set_option linter.unusedSimpArgs false
set_option linter.unusedVariables false
open Go.Aw Go.RowKit
attribute [local irreducible] WL AC WD WE MStep OkOp

theorem heavy1_spec (t : Tm) (h : t.size ≤ 1048576) : FC Tryz.prog 10 [.lst 3 [cT t] true] (.bool (heavyT [t])) := by
  have h1 := heavy2_spec [t] (by simp only [sizes]; omega)
  simp only [sT, rs1] at h1
  exact h1.args (.cons (.full _ _ _) .nil)

theorem heavyArgs_spec (l : List Ar) (h : sizesA l ≤ 1048576) : FC Tryz.prog 56 [sA l] (.bool (heavyA l)) := by
  have hlen := len_le_sizesA l
  refine FC_intro hty Tryz.func56 rfl rfl rfl fun w0 => ?_
  repeat' (first | refine WL_p hty rfl rfl ?_ | refine WL_nil ?_ | refine AC_seq ?_ | refine AC_region ?_ | refine AC_block ?_ | refine AC_skip ?_ | refine AC_condT rfl ?_ | refine AC_condF rfl ?_ | refine AC_exit ?_ | refine AC_ret ?_ | refine WL_ung rfl rfl ?_ | refine WL_offT rfl rfl rfl ?_ | refine WL_offF rfl rfl rfl ?_ | refine WL_offU rfl rfl rfl ?_ | refine WL_m rfl (m_idxN hty rfl rfl rfl (by assumption) rfl) ?_ | refine ends_bool rfl ?_ | refine WL_cmp rfl rfl rfl rfl (fun _ => ?_) (fun _ => ?_) | refine AC_cond rfl (fun _ => ?_) (fun _ => ?_))
  · rename_i hc
    rw [rsA_length] at hc
    have : 20 < l.length := by omega
    simp [heavyA, this]
  rename_i hc
  rw [rsA_length] at hc
  have h20 : ¬ 20 < l.length := by omega
  refine AC_for l.length (fun j => (l.take j).any (fun a => heavyT [a.typ] || heavyT a.dom || heavyT a.idx) = false) (fun j => ⟨envOf [(0, sA l), (3, .int .i64 (j : Nat))], bkOf []⟩)
    (less_sub ⟨⟨_, rfl, .inl ⟨.refl _, rfl⟩⟩, ⟨_, rfl, .inl ⟨.refl _, rfl⟩⟩, trivial⟩ trivial) rfl ?_
  intro j hj hI
  repeat' (first | refine WL_p hty rfl rfl ?_ | refine WL_nil ?_ | refine AC_seq ?_ | refine AC_region ?_ | refine AC_block ?_ | refine AC_skip ?_ | refine AC_condT rfl ?_ | refine AC_condF rfl ?_ | refine AC_exit ?_ | refine AC_ret ?_ | refine WL_ung rfl rfl ?_ | refine WL_offT rfl rfl rfl ?_ | refine WL_offF rfl rfl rfl ?_ | refine WL_offU rfl rfl rfl ?_ | refine WL_m rfl (m_idxN hty rfl rfl rfl (by assumption) rfl) ?_ | refine ends_bool rfl ?_)
  refine WL_cmp rfl rfl rfl rfl (fun hc => ?_) (fun hc => ?_)
  · have hlt : j < l.length := by rw [rsA_length] at hc; omega
    obtain ⟨k, hk, hmem⟩ := get_of_lt hlt
    have hks := size_le_sizesA hmem
    unfold Ar.size at hks
    have rk := rsA_get hk
    have hat := any_take_succ (p := fun a : Ar => heavyT [a.typ] || heavyT a.dom || heavyT a.idx) hk
    repeat' (first | refine WL_callB rfl (heavy1_spec _ (by omega)) rfl (fun _ => ?_) (fun _ => ?_) | refine WL_callB rfl (heavy2_spec _ (by omega)) rfl (fun _ => ?_) (fun _ => ?_) | refine WL_p hty rfl rfl ?_ | refine WL_nil ?_ | refine AC_seq ?_ | refine AC_region ?_ | refine AC_block ?_ | refine AC_skip ?_ | refine AC_condT rfl ?_ | refine AC_condF rfl ?_ | refine AC_exit ?_ | refine AC_ret ?_ | refine WL_ung rfl rfl ?_ | refine WL_offT rfl rfl rfl ?_ | refine WL_offF rfl rfl rfl ?_ | refine WL_offU rfl rfl rfl ?_ | refine WL_m rfl (m_idxN hty rfl rfl rfl (by assumption) rfl) ?_ | refine ends_bool rfl ?_ | refine WL_cmp rfl rfl rfl rfl (fun _ => ?_) (fun _ => ?_) | refine AC_cond rfl (fun _ => ?_) (fun _ => ?_))
    all_goals first
      | have h3 : l.any (fun a => heavyT [a.typ] || heavyT a.dom || heavyT a.idx) = true := any_of_get hk (by simp_all; done)
        simp [heavyA, h3]
        done
      | refine ⟨hlt, ?_, (less_sub ⟨⟨_, rfl, .inl ⟨.refl _, rfl⟩⟩, ⟨_, rfl, see_eq ?_ rfl⟩, trivial⟩ trivial)⟩
        · simp_all
        · exact congrArg (AV.int .i64) ((wrap_ok (by omega) (by omega)).trans (by omega))
  · obtain rfl : j = l.length := by rw [rsA_length] at hc; omega
    rw [List.take_length] at hI
    repeat' (first | refine WL_p hty rfl rfl ?_ | refine WL_nil ?_ | refine AC_seq ?_ | refine AC_region ?_ | refine AC_block ?_ | refine AC_skip ?_ | refine AC_condT rfl ?_ | refine AC_condF rfl ?_ | refine AC_exit ?_ | refine AC_ret ?_ | refine WL_ung rfl rfl ?_ | refine WL_offT rfl rfl rfl ?_ | refine WL_offF rfl rfl rfl ?_ | refine WL_offU rfl rfl rfl ?_ | refine WL_m rfl (m_idxN hty rfl rfl rfl (by assumption) rfl) ?_ | refine ends_bool rfl ?_ | refine WL_cmp rfl rfl rfl rfl (fun _ => ?_) (fun _ => ?_) | refine AC_cond rfl (fun _ => ?_) (fun _ => ?_))
    simp only [heavyA, hI]; simp [h20]

theorem heavyB_spec (b : Bl) (h : b.size ≤ 1048576) : FC Tryz.prog 31 [aB b] (.bool (heavyB b)) := by
  unfold Bl.size at h
  have hl1 := len_le_sizesS b.sorts
  have hl2 := len_le_sizesC b.cons
  refine FC_intro hty Tryz.func31 rfl rfl rfl fun w0 => ?_
  repeat' (first | refine WL_p hty rfl rfl ?_ | refine WL_nil ?_ | refine AC_seq ?_ | refine AC_region ?_ | refine AC_block ?_ | refine AC_skip ?_ | refine AC_condT rfl ?_ | refine AC_condF rfl ?_ | refine AC_exit ?_ | refine AC_ret ?_ | refine WL_ung rfl rfl ?_ | refine WL_offT rfl rfl rfl ?_ | refine WL_offF rfl rfl rfl ?_ | refine WL_offU rfl rfl rfl ?_ | refine WL_m rfl (m_idxN hty rfl rfl rfl (by assumption) rfl) ?_ | refine ends_bool rfl ?_ | refine WL_cmp rfl rfl rfl rfl (fun _ => ?_) (fun _ => ?_) | refine AC_cond rfl (fun _ => ?_) (fun _ => ?_))
  · rename_i hc
    rw [rsS_length] at hc
    have : 10 < b.sorts.length := by omega
    simp [heavyB, this]
  · rename_i hc
    rw [rsC_length] at hc
    have : 20 < b.cons.length := by omega
    simp [heavyB, this]
  rename_i hc1 hc2
  rw [rsS_length] at hc1
  rw [rsC_length] at hc2
  have h10 : ¬ 10 < b.sorts.length := by omega
  have h20 : ¬ 20 < b.cons.length := by omega
  refine AC_for b.sorts.length (fun j => (b.sorts.take j).any heavyS = false) (fun j => ⟨envOf [(1, .ptr 1 0), (3, .int .i64 (j : Nat))], bkOf [(1, .box [.lst 6 (rsS b.sorts) false, .lst 6 (rsC b.cons) false, .int .i64 b.elim])]⟩)
    (less_sub ⟨⟨_, rfl, .inl ⟨.refl _, rfl⟩⟩, ⟨_, rfl, .inl ⟨.refl _, rfl⟩⟩, trivial⟩ ⟨⟨⟨_, rfl, .refl _⟩, rfl⟩, trivial⟩) rfl ?_
  intro j hj hI
  repeat' (first | refine WL_p hty rfl rfl ?_ | refine WL_nil ?_ | refine AC_seq ?_ | refine AC_region ?_ | refine AC_block ?_ | refine AC_skip ?_ | refine AC_condT rfl ?_ | refine AC_condF rfl ?_ | refine AC_exit ?_ | refine AC_ret ?_ | refine WL_ung rfl rfl ?_ | refine WL_offT rfl rfl rfl ?_ | refine WL_offF rfl rfl rfl ?_ | refine WL_offU rfl rfl rfl ?_ | refine WL_m rfl (m_idxN hty rfl rfl rfl (by assumption) rfl) ?_ | refine ends_bool rfl ?_)
  refine WL_cmp rfl rfl rfl rfl (fun hc => ?_) (fun hc => ?_)
  · have hlt : j < b.sorts.length := by rw [rsS_length] at hc; omega
    obtain ⟨k, hk, hmem⟩ := get_of_lt hlt
    have hks := size_le_sizesS hmem
    unfold Sr.size at hks
    have rk := rsS_get hk
    have hat := any_take_succ (p := heavyS) hk
    repeat' (first | refine WL_callB rfl (heavyArgs_spec _ (by omega)) rfl (fun _ => ?_) (fun _ => ?_) | refine WL_callB rfl (heavy1_spec _ (by omega)) rfl (fun _ => ?_) (fun _ => ?_) | refine WL_p hty rfl rfl ?_ | refine WL_nil ?_ | refine AC_seq ?_ | refine AC_region ?_ | refine AC_block ?_ | refine AC_skip ?_ | refine AC_condT rfl ?_ | refine AC_condF rfl ?_ | refine AC_exit ?_ | refine AC_ret ?_ | refine WL_ung rfl rfl ?_ | refine WL_offT rfl rfl rfl ?_ | refine WL_offF rfl rfl rfl ?_ | refine WL_offU rfl rfl rfl ?_ | refine WL_m rfl (m_idxN hty rfl rfl rfl (by assumption) rfl) ?_ | refine ends_bool rfl ?_ | refine WL_cmp rfl rfl rfl rfl (fun _ => ?_) (fun _ => ?_) | refine AC_cond rfl (fun _ => ?_) (fun _ => ?_))
    all_goals first
      | have h3 : b.sorts.any heavyS = true := any_of_get hk (by simp_all [heavyS]; done)
        simp [heavyB, h3]
        done
      | refine ⟨hlt, ?_, (less_sub ⟨⟨_, rfl, .inl ⟨.refl _, rfl⟩⟩, ⟨_, rfl, see_eq ?_ rfl⟩, trivial⟩ ⟨⟨⟨_, rfl, .refl _⟩, rfl⟩, trivial⟩)⟩
        · simp_all [heavyS]
        · exact congrArg (AV.int .i64) ((wrap_ok (by omega) (by omega)).trans (by omega))
  · obtain rfl : j = b.sorts.length := by rw [rsS_length] at hc; omega
    rw [List.take_length] at hI
    repeat' (first | refine WL_p hty rfl rfl ?_ | refine WL_nil ?_ | refine AC_seq ?_ | refine AC_region ?_ | refine AC_block ?_ | refine AC_skip ?_ | refine AC_condT rfl ?_ | refine AC_condF rfl ?_ | refine AC_exit ?_ | refine AC_ret ?_ | refine WL_ung rfl rfl ?_ | refine WL_offT rfl rfl rfl ?_ | refine WL_offF rfl rfl rfl ?_ | refine WL_offU rfl rfl rfl ?_ | refine WL_m rfl (m_idxN hty rfl rfl rfl (by assumption) rfl) ?_ | refine ends_bool rfl ?_ | refine WL_cmp rfl rfl rfl rfl (fun _ => ?_) (fun _ => ?_) | refine AC_cond rfl (fun _ => ?_) (fun _ => ?_))
    clear hj hc
    refine AC_for b.cons.length (fun j => (b.cons.take j).any heavyC = false) (fun j => ⟨envOf [(1, .ptr 1 0), (4, .int .i64 (j : Nat))], bkOf [(1, .box [.lst 6 (rsS b.sorts) false, .lst 6 (rsC b.cons) false, .int .i64 b.elim])]⟩)
      (less_sub ⟨⟨_, rfl, .inl ⟨.refl _, rfl⟩⟩, ⟨_, rfl, .inl ⟨.refl _, rfl⟩⟩, trivial⟩ ⟨⟨⟨_, rfl, .refl _⟩, rfl⟩, trivial⟩) rfl ?_
    intro j hj hJ
    repeat' (first | refine WL_p hty rfl rfl ?_ | refine WL_nil ?_ | refine AC_seq ?_ | refine AC_region ?_ | refine AC_block ?_ | refine AC_skip ?_ | refine AC_condT rfl ?_ | refine AC_condF rfl ?_ | refine AC_exit ?_ | refine AC_ret ?_ | refine WL_ung rfl rfl ?_ | refine WL_offT rfl rfl rfl ?_ | refine WL_offF rfl rfl rfl ?_ | refine WL_offU rfl rfl rfl ?_ | refine WL_m rfl (m_idxN hty rfl rfl rfl (by assumption) rfl) ?_ | refine ends_bool rfl ?_)
    refine WL_cmp rfl rfl rfl rfl (fun hc => ?_) (fun hc => ?_)
    · have hlt : j < b.cons.length := by rw [rsC_length] at hc; omega
      obtain ⟨k, hk, hmem⟩ := get_of_lt hlt
      have hks := size_le_sizesC hmem
      unfold Cn.size at hks
      have rk := rsC_get hk
      have hat := any_take_succ (p := heavyC) hk
      repeat' (first | refine WL_callB rfl (heavyArgs_spec _ (by omega)) rfl (fun _ => ?_) (fun _ => ?_) | refine WL_callB rfl (heavy1_spec _ (by omega)) rfl (fun _ => ?_) (fun _ => ?_) | refine WL_callB rfl (heavy2_spec _ (by omega)) rfl (fun _ => ?_) (fun _ => ?_) | refine WL_p hty rfl rfl ?_ | refine WL_nil ?_ | refine AC_seq ?_ | refine AC_region ?_ | refine AC_block ?_ | refine AC_skip ?_ | refine AC_condT rfl ?_ | refine AC_condF rfl ?_ | refine AC_exit ?_ | refine AC_ret ?_ | refine WL_ung rfl rfl ?_ | refine WL_offT rfl rfl rfl ?_ | refine WL_offF rfl rfl rfl ?_ | refine WL_offU rfl rfl rfl ?_ | refine WL_m rfl (m_idxN hty rfl rfl rfl (by assumption) rfl) ?_ | refine ends_bool rfl ?_ | refine WL_cmp rfl rfl rfl rfl (fun _ => ?_) (fun _ => ?_) | refine AC_cond rfl (fun _ => ?_) (fun _ => ?_))
      all_goals first
        | have h3 : b.cons.any heavyC = true := any_of_get hk (by simp_all [heavyC]; done)
          simp [heavyB, h3]
          done
        | refine ⟨hlt, ?_, (less_sub ⟨⟨_, rfl, .inl ⟨.refl _, rfl⟩⟩, ⟨_, rfl, see_eq ?_ rfl⟩, trivial⟩ ⟨⟨⟨_, rfl, .refl _⟩, rfl⟩, trivial⟩)⟩
          · simp_all [heavyC]
          · exact congrArg (AV.int .i64) ((wrap_ok (by omega) (by omega)).trans (by omega))
    · obtain rfl : j = b.cons.length := by rw [rsC_length] at hc; omega
      rw [List.take_length] at hJ
      repeat' (first | refine WL_p hty rfl rfl ?_ | refine WL_nil ?_ | refine AC_seq ?_ | refine AC_region ?_ | refine AC_block ?_ | refine AC_skip ?_ | refine AC_condT rfl ?_ | refine AC_condF rfl ?_ | refine AC_exit ?_ | refine AC_ret ?_ | refine WL_ung rfl rfl ?_ | refine WL_offT rfl rfl rfl ?_ | refine WL_offF rfl rfl rfl ?_ | refine WL_offU rfl rfl rfl ?_ | refine WL_m rfl (m_idxN hty rfl rfl rfl (by assumption) rfl) ?_ | refine ends_bool rfl ?_ | refine WL_cmp rfl rfl rfl rfl (fun _ => ?_) (fun _ => ?_) | refine AC_cond rfl (fun _ => ?_) (fun _ => ?_))
      simp only [heavyB, hI, hJ]; simp [h10, h20]

end Go.Proofs.YtlonpgdnmngnmaaGreat

/-
  What an argument of the program's data reads as stands for its abstract value, of a size within its bulk.
-/
namespace Go.Proofs.YtlonpgdnmngnmaaGreat
set_option linter.unusedSimpArgs false
set_option linter.unusedVariables false
open Go.Aw Go.RowKit

theorem bulk_sum {H : Type} (l : List (DataW H)) : (l.map Rows.uptoBulk).sum = Rows.uptoBulkAll l := by
  induction l with
  | nil => rfl
  | cons a l ih => simp only [List.map_cons, List.sum_cons, ih, Rows.uptoBulkAll]
theorem bulk_slice {H : Type} (l r : List (DataW H)) : (l.map Rows.uptoBulk).sum ≤ Rows.uptoBulk (.slice l r) := by
  rw [bulk_sum]; simp only [Rows.uptoBulk]; omega

theorem one_bulk {H : Type} (d : DataW H) : 1 ≤ Rows.uptoBulk d := by
  cases d with
  | lit l => cases l <;> simp [Rows.uptoBulk]
  | _ => simp [Rows.uptoBulk]

theorem laid : Laid Tryz.prog := ⟨by kernel_rfl, by kernel_rfl, by kernel_rfl⟩
theorem ce_int : Tryz.prog.cellsOf 3 = 1 := by kernel_rfl
theorem ce_bool : Tryz.prog.cellsOf 4 = 1 := by kernel_rfl
theorem ce_tm : Tryz.prog.cellsOf 24 = 3 := by kernel_rfl
theorem ce_tms : Tryz.prog.cellsOf 22 = 1 := by kernel_rfl
theorem ce_ar : Tryz.prog.cellsOf 111 = 7 := by kernel_rfl
theorem ce_ars : Tryz.prog.cellsOf 51 = 1 := by kernel_rfl
theorem ce_cn : Tryz.prog.cellsOf 55 = 6 := by kernel_rfl
theorem ce_cns : Tryz.prog.cellsOf 41 = 1 := by kernel_rfl
theorem ce_sr : Tryz.prog.cellsOf 53 = 6 := by kernel_rfl
theorem ce_srs : Tryz.prog.cellsOf 40 = 1 := by kernel_rfl
theorem ce_bl : Tryz.prog.cellsOf 43 = 3 := by kernel_rfl

section
variable {H : Type} {enc : TypeId × Value → H} {w : World} {fuel : Nat} {cs : List Value} {d : DataW H} {ps : List MemPlace}

theorem map_rT (l : List Tm) : l.map cT = rsT l := by
  rw [rsT_map]; exact List.map_congr_left fun t _ => (rT_eq t).symm
theorem sizes_sum (l : List Tm) : (l.map fun t => 3 * Tm.size t).sum = 3 * sizes l := by
  induction l with
  | nil => rfl
  | cons a l ih => simp only [List.map_cons, List.sum_cons, ih, sizes]; omega
theorem sizesA_sum (l : List Ar) : (l.map fun t => 3 * Ar.size t).sum = 3 * sizesA l := by
  induction l with
  | nil => rfl
  | cons a l ih => simp only [List.map_cons, List.sum_cons, ih, sizesA]; omega
theorem sizesC_sum (l : List Cn) : (l.map fun t => 3 * Cn.size t).sum = 3 * sizesC l := by
  induction l with
  | nil => rfl
  | cons a l ih => simp only [List.map_cons, List.sum_cons, ih, sizesC]; omega
theorem sizesD_sum (l : List Cd) : (l.map fun t => 3 * Cd.size t).sum = 3 * sizesD l := by
  induction l with
  | nil => rfl
  | cons a l ih => simp only [List.map_cons, List.sum_cons, ih, sizesD]; omega
theorem sizesS_sum (l : List Sr) : (l.map fun t => 3 * Sr.size t).sum = 3 * sizesS l := by
  induction l with
  | nil => rfl
  | cons a l ih => simp only [List.map_cons, List.sum_cons, ih, sizesS]; omega

set_option maxRecDepth 100000 in
/-- What the fields read as, one by one. -/
theorem read_tm : ∀ fuel cs (d : DataW H) ps, DataW.trod enc Tryz.prog w 0 (fun _ => true) true fuel 24 cs = some (d, ps) → ∃ t : Tm, CV (oldS w) w cs (cT t) ∧ 3 * t.size ≤ Rows.uptoBulk d := by
  intro fuel
  induction fuel using Nat.strongRecOn with
  | _ fuel IH =>
    intro cs d ps h
    obtain ⟨xs, n, rfl, e, hl, hxl, hf⟩ := DataW.trod_struct Tryz.underlying24 h
    obtain ⟨rfl, rfl⟩ := Prod.mk.inj e
    rw [ce_tm] at hl
    match xs, hxl, cs, hl with
    | [x0, x1, x2], _, [c0, c1, c2], _ =>
      have h0 : DataW.trod enc Tryz.prog w 0 (fun _ => true) true n 3 (List.take (Tryz.prog.cellsOf 3) [c0, c1, c2]) = some (x0.1, x0.2) := hf 0 _ rfl
      rw [ce_int] at h0
      have h1 : DataW.trod enc Tryz.prog w 0 (fun _ => true) true n 3 (List.take (Tryz.prog.cellsOf 3) [c1, c2]) = some (x1.1, x1.2) := hf 1 _ rfl
      rw [ce_int] at h1
      have h2 : DataW.trod enc Tryz.prog w 0 (fun _ => true) true n 22 (List.take (Tryz.prog.cellsOf 22) [c2]) = some (x2.1, x2.2) := hf 2 _ rfl
      rw [ce_tms] at h2
      obtain ⟨k, _, r0, _⟩ := read_int Tryz.underlying3 h0
      obtain ⟨m, _, r1, _⟩ := read_int Tryz.underlying3 h1
      obtain ⟨l, r2, hs⟩ := read_slice Tryz.underlying22 ce_tm (by decide) (fun t => 3 * Tm.size t) cT Rows.uptoBulk bulk_slice (fun m cs d ps hm hh => IH m (by omega) cs d ps hh) h2
      rw [map_rT] at r2
      rw [sizes_sum] at hs
      have o0 := one_bulk x0.1
      have o1 := one_bulk x1.1
      refine ⟨.mk k m l, r0.append (r1.append r2), ?_⟩
      simp only [Tm.size, List.map_cons, List.map_nil, Rows.uptoBulk, Rows.uptoBulkAll]
      omega

theorem read_tms (h : DataW.trod enc Tryz.prog w 0 (fun _ => true) true fuel 22 cs = some (d, ps)) : ∃ l : List Tm, CV (oldS w) w cs [sT l] ∧ 3 * sizes l ≤ Rows.uptoBulk d := by
  obtain ⟨l, r2, hs⟩ := read_slice Tryz.underlying22 ce_tm (by decide) (fun t => 3 * Tm.size t) cT Rows.uptoBulk bulk_slice (fun m cs d ps hm hh => read_tm m cs d ps hh) h
  rw [map_rT] at r2
  rw [sizes_sum] at hs
  exact ⟨l, r2, hs⟩

set_option maxRecDepth 100000 in
theorem read_ar {cs} {d : DataW H} {ps} (h : DataW.trod enc Tryz.prog w 0 (fun _ => true) true fuel 111 cs = some (d, ps)) : ∃ t : Ar, CV (oldS w) w cs (cA t) ∧ 3 * t.size ≤ Rows.uptoBulk d := by
  obtain ⟨xs, n, rfl, e, hl, hxl, hf⟩ := DataW.trod_struct Tryz.underlying111 h
  obtain ⟨rfl, rfl⟩ := Prod.mk.inj e
  rw [ce_ar] at hl
  match xs, hxl, cs, hl with
  | [x0, x1, x2, x3, x4], _, [c0, c1, c2, c3, c4, c5, c6], _ =>
    have h0 : DataW.trod enc Tryz.prog w 0 (fun _ => true) true n 4 (List.take (Tryz.prog.cellsOf 4) [c0, c1, c2, c3, c4, c5, c6]) = some (x0.1, x0.2) := hf 0 _ rfl
    rw [ce_bool] at h0
    have h1 : DataW.trod enc Tryz.prog w 0 (fun _ => true) true n 24 (List.take (Tryz.prog.cellsOf 24) [c1, c2, c3, c4, c5, c6]) = some (x1.1, x1.2) := hf 1 _ rfl
    rw [ce_tm] at h1
    have h2 : DataW.trod enc Tryz.prog w 0 (fun _ => true) true n 22 (List.take (Tryz.prog.cellsOf 22) [c4, c5, c6]) = some (x2.1, x2.2) := hf 2 _ rfl
    rw [ce_tms] at h2
    have h3 : DataW.trod enc Tryz.prog w 0 (fun _ => true) true n 3 (List.take (Tryz.prog.cellsOf 3) [c5, c6]) = some (x3.1, x3.2) := hf 3 _ rfl
    rw [ce_int] at h3
    have h4 : DataW.trod enc Tryz.prog w 0 (fun _ => true) true n 22 (List.take (Tryz.prog.cellsOf 22) [c6]) = some (x4.1, x4.2) := hf 4 _ rfl
    rw [ce_tms] at h4
    obtain ⟨k, _, r0⟩ := read_bool Tryz.underlying4 h0
    obtain ⟨m, r1, s1⟩ := read_tm _ _ _ _ h1
    obtain ⟨l, r2, s2⟩ := read_tms h2
    obtain ⟨o, _, r3, _⟩ := read_int Tryz.underlying3 h3
    obtain ⟨q, r4, s4⟩ := read_tms h4
    refine ⟨⟨k, m, l, o, q⟩, r0.append (r1.append (r2.append (r3.append r4))), ?_⟩
    simp only [Ar.size, List.map_cons, List.map_nil, Rows.uptoBulk, Rows.uptoBulkAll]
    omega
theorem map_cA (l : List Ar) : l.map cA = rsA l := by
  induction l with
  | nil => rfl
  | cons a l ih => simp only [List.map_cons, ih, rsA]
theorem read_ars {cs} {d : DataW H} {ps} (h : DataW.trod enc Tryz.prog w 0 (fun _ => true) true fuel 51 cs = some (d, ps)) : ∃ l : List Ar, CV (oldS w) w cs [sA l] ∧ 3 * sizesA l ≤ Rows.uptoBulk d := by
  obtain ⟨l, r2, hs⟩ := read_slice Tryz.underlying51 ce_ar (by decide) (fun t => 3 * Ar.size t) cA Rows.uptoBulk bulk_slice (fun m cs d ps hm hh => read_ar hh) h
  rw [map_cA] at r2
  rw [sizesA_sum] at hs
  exact ⟨l, r2, hs⟩

set_option maxRecDepth 100000 in
theorem read_cn {cs} {d : DataW H} {ps} (h : DataW.trod enc Tryz.prog w 0 (fun _ => true) true fuel 55 cs = some (d, ps)) : ∃ t : Cn, CV (oldS w) w cs (cC t) ∧ 3 * t.size + 2 ≤ Rows.uptoBulk d := by
  obtain ⟨xs, n, rfl, e, hl, hxl, hf⟩ := DataW.trod_struct Tryz.underlying55 h
  obtain ⟨rfl, rfl⟩ := Prod.mk.inj e
  rw [ce_cn] at hl
  match xs, hxl, cs, hl with
  | [x0, x1, x2, x3], _, [c0, c1, c2, c3, c4, c5], _ =>
    have h0 : DataW.trod enc Tryz.prog w 0 (fun _ => true) true n 3 (List.take (Tryz.prog.cellsOf 3) [c0, c1, c2, c3, c4, c5]) = some (x0.1, x0.2) := hf 0 _ rfl
    rw [ce_int] at h0
    have h1 : DataW.trod enc Tryz.prog w 0 (fun _ => true) true n 51 (List.take (Tryz.prog.cellsOf 51) [c1, c2, c3, c4, c5]) = some (x1.1, x1.2) := hf 1 _ rfl
    rw [ce_ars] at h1
    have h2 : DataW.trod enc Tryz.prog w 0 (fun _ => true) true n 22 (List.take (Tryz.prog.cellsOf 22) [c2, c3, c4, c5]) = some (x2.1, x2.2) := hf 2 _ rfl
    rw [ce_tms] at h2
    have h3 : DataW.trod enc Tryz.prog w 0 (fun _ => true) true n 24 (List.take (Tryz.prog.cellsOf 24) [c3, c4, c5]) = some (x3.1, x3.2) := hf 3 _ rfl
    rw [ce_tm] at h3
    obtain ⟨o, _, r0, _⟩ := read_int Tryz.underlying3 h0
    obtain ⟨m, r1, s1⟩ := read_ars h1
    obtain ⟨l, r2, s2⟩ := read_tms h2
    obtain ⟨q, r3, s3⟩ := read_tm _ _ _ _ h3
    have o0 := one_bulk x0.1
    refine ⟨⟨o, m, l, q⟩, r0.append (r1.append (r2.append r3)), ?_⟩
    simp only [Cn.size, List.map_cons, List.map_nil, Rows.uptoBulk, Rows.uptoBulkAll]
    omega
theorem map_cC (l : List Cn) : l.map cC = rsC l := by
  induction l with
  | nil => rfl
  | cons a l ih => simp only [List.map_cons, ih, rsC]
theorem read_cns {cs} {d : DataW H} {ps} (h : DataW.trod enc Tryz.prog w 0 (fun _ => true) true fuel 41 cs = some (d, ps)) : ∃ l : List Cn, CV (oldS w) w cs [sC l] ∧ 3 * sizesC l ≤ Rows.uptoBulk d := by
  obtain ⟨l, r2, hs⟩ := read_slice Tryz.underlying41 ce_cn (by decide) (fun t => 3 * Cn.size t) cC Rows.uptoBulk bulk_slice (fun m cs d ps hm hh => let ⟨t, q1, q2⟩ := read_cn hh; ⟨t, q1, by omega⟩) h
  rw [map_cC] at r2
  rw [sizesC_sum] at hs
  exact ⟨l, r2, hs⟩

set_option maxRecDepth 100000 in
theorem read_sr {cs} {d : DataW H} {ps} (h : DataW.trod enc Tryz.prog w 0 (fun _ => true) true fuel 53 cs = some (d, ps)) : ∃ t : Sr, CV (oldS w) w cs (cS t) ∧ 3 * t.size ≤ Rows.uptoBulk d := by
  obtain ⟨xs, n, rfl, e, hl, hxl, hf⟩ := DataW.trod_struct Tryz.underlying53 h
  obtain ⟨rfl, rfl⟩ := Prod.mk.inj e
  rw [ce_sr] at hl
  match xs, hxl, cs, hl with
  | [x0, x1, x2, x3], _, [c0, c1, c2, c3, c4, c5], _ =>
    have h0 : DataW.trod enc Tryz.prog w 0 (fun _ => true) true n 51 (List.take (Tryz.prog.cellsOf 51) [c0, c1, c2, c3, c4, c5]) = some (x0.1, x0.2) := hf 0 _ rfl
    rw [ce_ars] at h0
    have h1 : DataW.trod enc Tryz.prog w 0 (fun _ => true) true n 3 (List.take (Tryz.prog.cellsOf 3) [c1, c2, c3, c4, c5]) = some (x1.1, x1.2) := hf 1 _ rfl
    rw [ce_int] at h1
    have h2 : DataW.trod enc Tryz.prog w 0 (fun _ => true) true n 4 (List.take (Tryz.prog.cellsOf 4) [c2, c3, c4, c5]) = some (x2.1, x2.2) := hf 2 _ rfl
    rw [ce_bool] at h2
    have h3 : DataW.trod enc Tryz.prog w 0 (fun _ => true) true n 24 (List.take (Tryz.prog.cellsOf 24) [c3, c4, c5]) = some (x3.1, x3.2) := hf 3 _ rfl
    rw [ce_tm] at h3
    obtain ⟨m, r0, s0⟩ := read_ars h0
    obtain ⟨o, _, r1, _⟩ := read_int Tryz.underlying3 h1
    obtain ⟨b, _, r2⟩ := read_bool Tryz.underlying4 h2
    obtain ⟨q, r3, s3⟩ := read_tm _ _ _ _ h3
    refine ⟨⟨m, o, b, q⟩, r0.append (r1.append (r2.append r3)), ?_⟩
    simp only [Sr.size, List.map_cons, List.map_nil, Rows.uptoBulk, Rows.uptoBulkAll]
    omega
theorem map_cS (l : List Sr) : l.map cS = rsS l := by
  induction l with
  | nil => rfl
  | cons a l ih => simp only [List.map_cons, ih, rsS]
theorem read_srs {cs} {d : DataW H} {ps} (h : DataW.trod enc Tryz.prog w 0 (fun _ => true) true fuel 40 cs = some (d, ps)) : ∃ l : List Sr, CV (oldS w) w cs [sS l] ∧ 3 * sizesS l ≤ Rows.uptoBulk d := by
  obtain ⟨l, r2, hs⟩ := read_slice Tryz.underlying40 ce_sr (by decide) (fun t => 3 * Sr.size t) cS Rows.uptoBulk bulk_slice (fun m cs d ps hm hh => read_sr hh) h
  rw [map_cS] at r2
  rw [sizesS_sum] at hs
  exact ⟨l, r2, hs⟩

set_option maxRecDepth 100000 in
theorem read_bl {cs} {d : DataW H} {ps} (h : DataW.trod enc Tryz.prog w 0 (fun _ => true) true fuel 43 cs = some (d, ps)) : ∃ t : Bl, CV (oldS w) w cs [.lst 6 (rsS t.sorts) false, .lst 6 (rsC t.cons) false, .int .i64 t.elim] ∧ 3 * t.size ≤ Rows.uptoBulk d := by
  obtain ⟨xs, n, rfl, e, hl, hxl, hf⟩ := DataW.trod_struct Tryz.underlying43 h
  obtain ⟨rfl, rfl⟩ := Prod.mk.inj e
  rw [ce_bl] at hl
  match xs, hxl, cs, hl with
  | [x0, x1, x2], _, [c0, c1, c2], _ =>
    have h0 : DataW.trod enc Tryz.prog w 0 (fun _ => true) true n 40 (List.take (Tryz.prog.cellsOf 40) [c0, c1, c2]) = some (x0.1, x0.2) := hf 0 _ rfl
    rw [ce_srs] at h0
    have h1 : DataW.trod enc Tryz.prog w 0 (fun _ => true) true n 41 (List.take (Tryz.prog.cellsOf 41) [c1, c2]) = some (x1.1, x1.2) := hf 1 _ rfl
    rw [ce_cns] at h1
    have h2 : DataW.trod enc Tryz.prog w 0 (fun _ => true) true n 3 (List.take (Tryz.prog.cellsOf 3) [c2]) = some (x2.1, x2.2) := hf 2 _ rfl
    rw [ce_int] at h2
    obtain ⟨m, r0, s0⟩ := read_srs h0
    obtain ⟨l, r1, s1⟩ := read_cns h1
    obtain ⟨o, _, r2, _⟩ := read_int Tryz.underlying3 h2
    refine ⟨⟨m, l, o⟩, r0.append (r1.append r2), ?_⟩
    simp only [Bl.size, List.map_cons, List.map_nil, Rows.uptoBulk, Rows.uptoBulkAll]
    omega
end

end Go.Proofs.YtlonpgdnmngnmaaGreat

/-
  What a row of entries reads as.
-/
namespace Go.Proofs.YtlonpgdnmngnmaaGreat
set_option linter.unusedSimpArgs false
set_option linter.unusedVariables false
open Go.Aw Go.RowKit

theorem ce_en : Tryz.prog.cellsOf 45 = 12 := by kernel_rfl
theorem ce_ens : Tryz.prog.cellsOf 25 = 1 := by kernel_rfl

section
variable {H : Type} {enc : TypeId × Value → H} {w : World} {fuel : Nat} {cs : List Value} {d : DataW H} {ps : List MemPlace}

theorem sizesE_sum (l : List En) : (l.map fun t => 3 * En.size t).sum = 3 * sizesE l := by
  induction l with
  | nil => rfl
  | cons a l ih => simp only [List.map_cons, List.sum_cons, ih, sizesE]; omega
theorem map_cE (l : List En) : l.map cE = rsE l := (rsE_map l).symm

set_option maxRecDepth 100000 in
theorem read_en {cs} {d : DataW H} {ps} (h : DataW.trod enc Tryz.prog w 0 (fun _ => true) true fuel 45 cs = some (d, ps)) : ∃ t : En, CV (oldS w) w cs (cE t) ∧ 3 * t.size ≤ Rows.uptoBulk d := by
  obtain ⟨xs, n, rfl, e, hl, hxl, hf⟩ := DataW.trod_struct Tryz.underlying45 h
  obtain ⟨rfl, rfl⟩ := Prod.mk.inj e
  rw [ce_en] at hl
  match xs, hxl, cs, hl with
  | [x0, x1, x2, x3, x4, x5], _, [c0, c1, c2, c3, c4, c5, c6, c7, c8, c9, c10, c11], _ =>
    have h0 : DataW.trod enc Tryz.prog w 0 (fun _ => true) true n 3 (List.take (Tryz.prog.cellsOf 3) [c0, c1, c2, c3, c4, c5, c6, c7, c8, c9, c10, c11]) = some (x0.1, x0.2) := hf 0 _ rfl
    rw [ce_int] at h0
    have h1 : DataW.trod enc Tryz.prog w 0 (fun _ => true) true n 24 (List.take (Tryz.prog.cellsOf 24) [c1, c2, c3, c4, c5, c6, c7, c8, c9, c10, c11]) = some (x1.1, x1.2) := hf 1 _ rfl
    rw [ce_tm] at h1
    have h2 : DataW.trod enc Tryz.prog w 0 (fun _ => true) true n 24 (List.take (Tryz.prog.cellsOf 24) [c4, c5, c6, c7, c8, c9, c10, c11]) = some (x2.1, x2.2) := hf 2 _ rfl
    rw [ce_tm] at h2
    have h3 : DataW.trod enc Tryz.prog w 0 (fun _ => true) true n 3 (List.take (Tryz.prog.cellsOf 3) [c7, c8, c9, c10, c11]) = some (x3.1, x3.2) := hf 3 _ rfl
    rw [ce_int] at h3
    have h4 : DataW.trod enc Tryz.prog w 0 (fun _ => true) true n 3 (List.take (Tryz.prog.cellsOf 3) [c8, c9, c10, c11]) = some (x4.1, x4.2) := hf 4 _ rfl
    rw [ce_int] at h4
    have h5 : DataW.trod enc Tryz.prog w 0 (fun _ => true) true n 43 (List.take (Tryz.prog.cellsOf 43) [c9, c10, c11]) = some (x5.1, x5.2) := hf 5 _ rfl
    rw [ce_bl] at h5
    obtain ⟨o, _, r0, _⟩ := read_int Tryz.underlying3 h0
    obtain ⟨m, r1, s1⟩ := read_tm _ _ _ _ h1
    obtain ⟨l, r2, s2⟩ := read_tm _ _ _ _ h2
    obtain ⟨p, _, r3, _⟩ := read_int Tryz.underlying3 h3
    obtain ⟨q, _, r4, _⟩ := read_int Tryz.underlying3 h4
    obtain ⟨z, r5, s5⟩ := read_bl h5
    refine ⟨⟨o, m, l, p, q, z⟩, r0.append (r1.append (r2.append (r3.append (r4.append r5)))), ?_⟩
    simp only [En.size, List.map_cons, List.map_nil, Rows.uptoBulk, Rows.uptoBulkAll]
    omega
theorem read_ens {cs} {d : DataW H} {ps} (h : DataW.trod enc Tryz.prog w 0 (fun _ => true) true fuel 25 cs = some (d, ps)) : ∃ l : List En, CV (oldS w) w cs [sE l] ∧ 3 * sizesE l ≤ Rows.uptoBulk d := by
  obtain ⟨l, r2, hs⟩ := read_slice Tryz.underlying25 ce_en (by decide) (fun t => 3 * En.size t) cE Rows.uptoBulk bulk_slice (fun m cs d ps hm hh => read_en hh) h
  rw [map_cE] at r2
  rw [sizesE_sum] at hs
  exact ⟨l, r2, hs⟩
end

end Go.Proofs.YtlonpgdnmngnmaaGreat
