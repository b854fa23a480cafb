/-
  DERIVED: THE SHELF's CONTRACTS AT THIS DUMP, IN PLAIN WORDS (tools/lay-plain.mjs out of 'TryzSrt.lean', which tools/lay-shelf.mjs wrote): THE SAME DECLARATIONS UNDER THE SAME NAMES: 'import', 'namespace', 'open', 'def', 'theorem' AND NOTHING ELSE: no command of the shelf's: FOR A HAND-IN. Each laying: the table of numbers ('.._ren') and one theorem, a field a fact of the dump's own or the kernel's comparison; each contract: ONE APPLICATION.; What the library's functions that tell a map's keys, and sort them, do: by the kit's contracts, laid at this program.; The constants that a term names; the greatest of numbers.; Whether a block has the right shape, in plain words.; All terms of arguments; the greatest of numbers.; The greatest constant that a block names.; The constants of a block: how many, which.; Which constant of a block a number is.; The program's terms: in scope, alike; rows that are alike.; The program's word on a block's shape: terms, arguments.; The first one that has a property, of arguments, of constructors.; The program's word on a block's shape: sorts, constructors, blocks.; What is more than is played, of blocks.; What a row of entries reads as.
-/
import Derived.Shelf.SlIterI.Nil
import Derived.Shelf.SortM.Plain
import Derived.Shelf.SortM.SortNone
import Derived.Ground.GgzProg
import Derived.Ground.SlgmProg
import Derived.Test.YtoknnfhgoikpiaaGreatProg
import Derived.Test.YtoknnfhgoikpiaaGreatGC
import Derived.Test.YtoknnfhgoikpiaaGreatGB

/-
  DERIVED: THE SHELF's CONTRACTS AT THIS DUMP, IN PLAIN WORDS (tools/lay-plain.mjs out of 'TryzSrt.lean', which tools/lay-shelf.mjs wrote): THE SAME DECLARATIONS UNDER THE SAME NAMES: 'import', 'namespace', 'open', 'def', 'theorem' AND NOTHING ELSE: no command of the shelf's: FOR A HAND-IN. Each laying: the table of numbers ('.._ren') and one theorem, a field a fact of the dump's own or the kernel's comparison; each contract: ONE APPLICATION.
-/
namespace Go.Proofs
open Go.Shelf
def YtoknnfhgoikpiaaGreat.keysA_ren : Go.Shelf.Ren := ⟨fun | 7 => 241 | 10 => 253 | n => n, fun | 23 => 210 | 26 => 3 | 3 => 4 | 28 => 214 | 0 => 0 | 27 => 213 | 33 => 145 | 4 => 4 | n => n, fun | n => n⟩
theorem YtoknnfhgoikpiaaGreat.keysA : Go.Proofs.SlLaysZI.n7 Tryz.prog YtoknnfhgoikpiaaGreat.keysA_ren := {
  mixed := by kernel_rfl
  f7 := ⟨Tryz.f241.name, by decide, Tryz.func241.trans (congrArg some (by kernel_rfl))⟩
  f10 := ⟨Tryz.f253.name, by decide, Tryz.func253.trans (congrArg some (by kernel_rfl))⟩
  t0 := Tryz.underlying0
  a0 := Tryz.isAgg0
  z0 := Tryz.sizeOf0
  v0 := Tryz.zeroValue0
  t4 := Tryz.underlying4
  a4 := Tryz.isAgg4
  z4 := Tryz.sizeOf4
  v4 := Tryz.zeroValue4
  t23 := Tryz.underlying210
  a23 := Tryz.isAgg210
  z23 := Tryz.sizeOf210
  v23 := Tryz.zeroValue210
  t26 := Tryz.underlying3
  a26 := Tryz.isAgg3
  z26 := Tryz.sizeOf3
  v26 := Tryz.zeroValue3
  t27 := Tryz.underlying213
  a27 := Tryz.isAgg213
  z27 := Tryz.sizeOf213
  v27 := Tryz.zeroValue213
  t28 := Tryz.underlying214
  a28 := Tryz.isAgg214
  z28 := Tryz.sizeOf214
  v28 := Tryz.zeroValue214
  t33 := Tryz.underlying145
  a33 := Tryz.isAgg145
  z33 := Tryz.sizeOf145
  v33 := Tryz.zeroValue145 }
def YtoknnfhgoikpiaaGreat.sortedA_ren : Go.Shelf.Ren := ⟨fun | 6 => 240 | 8 => 251 | 9 => 252 | 11 => 256 | 13 => 258 | 12 => 257 | 23 => 269 | 24 => 270 | 14 => 260 | 15 => 261 | 16 => 262 | 17 => 263 | 18 => 264 | 19 => 265 | 20 => 266 | 21 => 267 | 22 => 268 | 25 => 271 | 26 => 272 | 27 => 273 | 28 => 274 | 29 => 275 | 30 => 276 | 31 => 277 | n => n, fun | 26 => 3 | 28 => 214 | 24 => 64 | 0 => 0 | 3 => 3 | 37 => 40 | 48 => 237 | 50 => 239 | 4 => 4 | 40 => 230 | 39 => 229 | 45 => 208 | 5 => 5 | 9 => 9 | 51 => 240 | 55 => 244 | 57 => 246 | 58 => 203 | 33 => 145 | n => n, fun | n => n⟩
theorem YtoknnfhgoikpiaaGreat.sortedA : Go.Proofs.SlLaysZI.n6 Tryz.prog YtoknnfhgoikpiaaGreat.sortedA_ren := {
  mixed := by kernel_rfl
  f6 := ⟨Tryz.f240.name, by decide, Tryz.func240.trans (congrArg some (by kernel_rfl))⟩
  f8 := ⟨Tryz.f251.name, by decide, Tryz.func251.trans (congrArg some (by kernel_rfl))⟩
  f11 := ⟨Tryz.f256.name, by decide, Tryz.func256.trans (congrArg some (by kernel_rfl))⟩
  t0 := Tryz.underlying0
  a0 := Tryz.isAgg0
  z0 := Tryz.sizeOf0
  v0 := Tryz.zeroValue0
  t24 := Tryz.underlying64
  a24 := Tryz.isAgg64
  z24 := Tryz.sizeOf64
  v24 := Tryz.zeroValue64
  t26 := Tryz.underlying3
  a26 := Tryz.isAgg3
  z26 := Tryz.sizeOf3
  v26 := Tryz.zeroValue3
  t28 := Tryz.underlying214
  a28 := Tryz.isAgg214
  z28 := Tryz.sizeOf214
  v28 := Tryz.zeroValue214
  i26 := by kernel_rfl }
def YtoknnfhgoikpiaaGreat.sortA_ren : Go.Shelf.Ren := ⟨fun | 5 => 252 | 8 => 258 | 7 => 257 | 19 => 269 | 20 => 270 | 10 => 260 | 11 => 261 | 12 => 262 | 13 => 263 | 14 => 264 | 15 => 265 | 16 => 266 | 17 => 267 | 18 => 268 | 30 => 271 | 31 => 272 | 32 => 273 | 33 => 274 | 34 => 275 | 35 => 276 | 40 => 277 | n => n, fun | 23 => 64 | 25 => 3 | 3 => 3 | 32 => 40 | 22 => 64 | 0 => 0 | 44 => 237 | 46 => 239 | 4 => 4 | 36 => 230 | 35 => 229 | 41 => 208 | 5 => 5 | 9 => 9 | 53 => 240 | 57 => 244 | 63 => 246 | 64 => 203 | n => n, fun | n => n⟩
theorem YtoknnfhgoikpiaaGreat.sortA : Go.Proofs.SlLaysM.n5 Tryz.prog YtoknnfhgoikpiaaGreat.sortA_ren := {
  mixed := by kernel_rfl
  f5 := ⟨Tryz.f252.name, by decide, Tryz.func252.trans (congrArg some (by kernel_rfl))⟩
  f7 := ⟨Tryz.f257.name, by decide, Tryz.func257.trans (congrArg some (by kernel_rfl))⟩
  f8 := Tryz.func258.trans (congrArg some (by kernel_rfl))
  f10 := ⟨Tryz.f260.name, by decide, Tryz.func260.trans (congrArg some (by kernel_rfl))⟩
  f11 := ⟨Tryz.f261.name, by decide, Tryz.func261.trans (congrArg some (by kernel_rfl))⟩
  f12 := ⟨Tryz.f262.name, by decide, Tryz.func262.trans (congrArg some (by kernel_rfl))⟩
  f13 := ⟨Tryz.f263.name, by decide, Tryz.func263.trans (congrArg some (by kernel_rfl))⟩
  f14 := ⟨Tryz.f264.name, by decide, Tryz.func264.trans (congrArg some (by kernel_rfl))⟩
  f15 := ⟨Tryz.f265.name, by decide, Tryz.func265.trans (congrArg some (by kernel_rfl))⟩
  f16 := ⟨Tryz.f266.name, by decide, Tryz.func266.trans (congrArg some (by kernel_rfl))⟩
  f17 := ⟨Tryz.f267.name, by decide, Tryz.func267.trans (congrArg some (by kernel_rfl))⟩
  f18 := ⟨Tryz.f268.name, by decide, Tryz.func268.trans (congrArg some (by kernel_rfl))⟩
  f19 := Tryz.func269.trans (congrArg some (by kernel_rfl))
  f20 := Tryz.func270.trans (congrArg some (by kernel_rfl))
  f30 := ⟨Tryz.f271.name, by decide, Tryz.func271.trans (congrArg some (by kernel_rfl))⟩
  f31 := Tryz.func272.trans (congrArg some (by kernel_rfl))
  f32 := Tryz.func273.trans (congrArg some (by kernel_rfl))
  f33 := ⟨Tryz.f274.name, by decide, Tryz.func274.trans (congrArg some (by kernel_rfl))⟩
  f34 := ⟨Tryz.f275.name, by decide, Tryz.func275.trans (congrArg some (by kernel_rfl))⟩
  f35 := ⟨Tryz.f276.name, by decide, Tryz.func276.trans (congrArg some (by kernel_rfl))⟩
  f40 := ⟨Tryz.f277.name, by decide, Tryz.func277.trans (congrArg some (by kernel_rfl))⟩
  t0 := Tryz.underlying0
  a0 := Tryz.isAgg0
  z0 := Tryz.sizeOf0
  v0 := Tryz.zeroValue0
  t3 := Tryz.underlying3
  a3 := Tryz.isAgg3
  z3 := Tryz.sizeOf3
  v3 := Tryz.zeroValue3
  t4 := Tryz.underlying4
  a4 := Tryz.isAgg4
  z4 := Tryz.sizeOf4
  v4 := Tryz.zeroValue4
  t5 := Tryz.underlying5
  a5 := Tryz.isAgg5
  z5 := Tryz.sizeOf5
  v5 := Tryz.zeroValue5
  t9 := Tryz.underlying9
  a9 := Tryz.isAgg9
  z9 := Tryz.sizeOf9
  v9 := Tryz.zeroValue9
  t22 := Tryz.underlying64
  a22 := Tryz.isAgg64
  z22 := Tryz.sizeOf64
  v22 := Tryz.zeroValue64
  t23 := Tryz.underlying64
  a23 := Tryz.isAgg64
  z23 := Tryz.sizeOf64
  v23 := Tryz.zeroValue64
  t25 := Tryz.underlying3
  a25 := Tryz.isAgg3
  z25 := Tryz.sizeOf3
  v25 := Tryz.zeroValue3
  t32 := Tryz.underlying40
  a32 := Tryz.isAgg40
  z32 := Tryz.sizeOf40
  v32 := Tryz.zeroValue40
  t35 := Tryz.underlying229
  a35 := Tryz.isAgg229
  z35 := Tryz.sizeOf229
  v35 := Tryz.zeroValue229
  t36 := Tryz.underlying230
  a36 := Tryz.isAgg230
  z36 := Tryz.sizeOf230
  v36 := Tryz.zeroValue230
  t41 := Tryz.underlying208
  a41 := Tryz.isAgg208
  z41 := Tryz.sizeOf208
  v41 := Tryz.zeroValue208
  t44 := Tryz.underlying237
  a44 := Tryz.isAgg237
  z44 := Tryz.sizeOf237
  v44 := Tryz.zeroValue237
  t46 := Tryz.underlying239
  a46 := Tryz.isAgg239
  z46 := Tryz.sizeOf239
  v46 := Tryz.zeroValue239
  t53 := Tryz.underlying240
  a53 := Tryz.isAgg240
  z53 := Tryz.sizeOf240
  v53 := Tryz.zeroValue240
  t57 := Tryz.underlying244
  a57 := Tryz.isAgg244
  z57 := Tryz.sizeOf244
  v57 := Tryz.zeroValue244
  t63 := Tryz.underlying246
  a63 := Tryz.isAgg246
  z63 := Tryz.sizeOf246
  v63 := Tryz.zeroValue246
  t64 := Tryz.underlying203
  a64 := Tryz.isAgg203
  z64 := Tryz.sizeOf203
  v64 := Tryz.zeroValue203 }
end Go.Proofs

/-
  What the library's functions that tell a map's keys, and sort them, do: by the kit's contracts, laid at this program.
-/
namespace Go.Proofs.YtoknnfhgoikpiaaGreat
set_option linter.unusedSimpArgs false
set_option linter.unusedVariables false
open Go.Aw Go.RowKit Go.Maps Go.Sort Go.Shelf

theorem sorts (m : Nat) : AnyZI.SortsIn Tryz.prog sortedA_ren Fence.wide m :=
  ⟨fun blk off cap ss W hH hblk hsz => callsIn_wide.2 (AnyM.slices_Sort_int sortA blk off cap ss W hH hblk hsz),
   fun p cap W => callsIn_wide.2 (AnyM.slices_Sort_int_none sortA p cap W)⟩

theorem sortedOf : SortedOf Tryz.prog 241 240 253 3 3 210 where
  keys mb w := (callsIn_wide (n := 5)).1 (AnyZI.keys_in keysA Fence.wide 5 trivial rfl mb w)
  sorted b nn Bm D0 w hown hm hBm hmax hbytes := by
    have hseq : SeqGives Fence.wide 2 Tryz.prog 253 #[.pointer (some ⟨Bm, 0, none⟩)] encZ (fun ss => ss.Perm (intKeys D0)) (Maps.size D0) w :=
      AnyZI.keys_gives (ρ := keysA_ren) { keysA with } Fence.wide _ trivial rfl (by omega) Bm b nn D0 _ hBm hm hown
    have cS := AnyZI.sorted_in sortedA Fence.wide 5 trivial trivial trivial trivial rfl (by omega) (sorts _) (enters_of Tryz.func252 (by kernel_rfl) rfl) 253 #[.pointer (some ⟨Bm, 0, none⟩)] trivial (enters_of Tryz.func253 (by kernel_rfl) rfl) _ _ hmax hbytes _ hseq
    exact (callsIn_wide (n := 5)).1 cS
  fnK := ⟨_, Tryz.func241, rfl, rfl⟩
  fnS := ⟨_, Tryz.func240, rfl, rfl⟩

end Go.Proofs.YtoknnfhgoikpiaaGreat

/-
  The constants that a term names; the greatest of numbers.
-/
namespace Go.Proofs.YtoknnfhgoikpiaaGreat
set_option linter.unusedSimpArgs false
set_option linter.unusedVariables false
open Go.Aw Go.RowKit
attribute [local irreducible] WL AC WD WE MStep OkOp

mutual
def conT : Tm → (Int → Option AV) → Int → Option AV
  | .mk k n l, f => conTs l (if k = 3 then putF f n (.bool true) else f)
def conTs : List Tm → (Int → Option AV) → Int → Option AV
  | [], f => f
  | t :: l, f => conTs l (conT t f)
end
mutual
def cntT : Tm → Nat
  | .mk k _ l => (if k = 3 then 1 else 0) + cntTs l
def cntTs : List Tm → Nat
  | [] => 0
  | t :: l => cntT t + cntTs l
end
theorem conT_eq (t : Tm) (f : Int → Option AV) : conT t f = conTs t.kids (if t.kind = 3 then putF f t.num (.bool true) else f) := by cases t; rw [conT]; rfl
theorem cntT_eq (t : Tm) : cntT t = (if t.kind = 3 then 1 else 0) + cntTs t.kids := by cases t; rw [cntT]; rfl
theorem conTs_snoc (t : Tm) : ∀ (l : List Tm) (f : Int → Option AV), conTs (l ++ [t]) f = conT t (conTs l f)
  | [], f => by simp [conTs]
  | u :: l, f => by simp only [List.cons_append, conTs, conTs_snoc t l]
theorem cntTs_snoc (t : Tm) : ∀ (l : List Tm), cntTs (l ++ [t]) = cntTs l + cntT t
  | [] => by simp [cntTs]
  | u :: l => by simp only [List.cons_append, cntTs, cntTs_snoc t l]; omega
theorem conTs_next {l : List Tm} {i : Nat} {t : Tm} (h : l[i]? = some t) (f : Int → Option AV) : conTs (l.take (i + 1)) f = conT t (conTs (l.take i) f) := by
  rw [List.take_add_one, h, Option.toList_some, conTs_snoc]
theorem cntTs_next {l : List Tm} {i : Nat} {t : Tm} (h : l[i]? = some t) : cntTs (l.take (i + 1)) = cntTs (l.take i) + cntT t := by
  rw [List.take_add_one, h, Option.toList_some, cntTs_snoc]
mutual
theorem cntT_le : ∀ t : Tm, cntT t ≤ t.size
  | .mk k _ l => by
    have := cntTs_le l
    rw [cntT, Tm.size_eq]
    show _ ≤ 1 + sizes l
    split <;> omega
theorem cntTs_le : ∀ l : List Tm, cntTs l ≤ sizes l
  | [] => Nat.le_refl _
  | t :: l => by
    have := cntT_le t
    have := cntTs_le l
    simp only [cntTs, sizes]; omega
end
theorem cntTs_take (l : List Tm) (i : Nat) : cntTs (l.take i) ≤ cntTs l := by
  induction l generalizing i with
  | nil => simp
  | cons t l ih => cases i with
    | zero => simp [cntTs]
    | succ i => have := ih i; simp only [List.take_succ_cons, cntTs]; omega

theorem cntTs_room : ∀ {l : List Tm} {i : Nat} {k : Tm}, l[i]? = some k → cntTs (l.take i) + k.size ≤ sizes l
  | [], i, k, h => by simp at h
  | t :: l, 0, k, h => by
    obtain rfl := Option.some.inj (show some t = some k from h)
    simp [cntTs, sizes]
  | t :: l, i + 1, k, h => by
    have h1 := cntTs_room (l := l) (i := i) (k := k) (by simpa using h)
    have h2 := cntT_le t
    simp only [List.take_succ_cons, cntTs, sizes]; omega

theorem hmapB : Tryz.prog.underlying 210 = some (.map 3 4) := by kernel_rfl
theorem hint : Tryz.prog.underlying 3 = some (.int .i64) := by kernel_rfl
theorem wf_small {i : Int} (h : 0 ≤ i ∧ i ≤ 65535) : (Lit.int .i64 i).wf = true := by
  simp only [Lit.wf, Bool.and_eq_true, decide_eq_true_eq]
  exact ⟨Int.le_trans (by decide) h.1, Int.le_trans h.2 (by decide)⟩

mutual
/-- Constants' numbers are small. -/
def okN : Tm → Bool
  | .mk k n l => (decide (k ≠ 3) || inR n 0 65535) && okNs l
def okNs : List Tm → Bool
  | [] => true
  | t :: l => okN t && okNs l
end
theorem okNs_all (l : List Tm) : okNs l = l.all okN := by
  induction l with
  | nil => rfl
  | cons t l ih => simp [okNs, ih]
theorem okN_eq (t : Tm) : okN t = ((decide (t.kind ≠ 3) || inR t.num 0 65535) && t.kids.all okN) := by cases t; rw [okN, okNs_all]; rfl
theorem okN_kids {t k : Tm} (h : okN t = true) (hk : k ∈ t.kids) : okN k = true := by
  rw [okN_eq, Bool.and_eq_true] at h
  exact List.all_eq_true.1 h.2 k hk
theorem okN_num {t : Tm} (h : okN t = true) (hk : t.kind = 3) : 0 ≤ t.num ∧ t.num ≤ 65535 := by
  rw [okN_eq, Bool.and_eq_true] at h
  simp only [hk, inR, ne_eq, not_true_eq_false, decide_false, Bool.false_or, Bool.and_eq_true, decide_eq_true_eq] at h
  exact h.1
theorem formedT_nums {t : Tm} (h : formedT t = true) : 0 ≤ t.num ∧ t.num ≤ 65535 := by
  rw [formedT_eq] at h
  simp only [Bool.and_eq_true, Bool.or_eq_true, decide_eq_true_eq, inR] at h
  obtain ⟨⟨_, h1, h2⟩, _⟩ := h
  rcases h1 with h1 | h1
  · rcases h2 with h2 | h2
    · exact absurd h2 h1
    · omega
  · exact h1
mutual
theorem formed_okN : ∀ t : Tm, formedT t = true → okN t = true
  | .mk k n l, h => by
    have h1 := formedT_nums h
    rw [formedT, Bool.and_eq_true] at h
    rw [okN, formed_okNs l h.2]
    simp only [Tm.num] at h1
    simp [inR, h1]
theorem formed_okNs : ∀ l : List Tm, formedTs l = true → okNs l = true
  | [], _ => rfl
  | t :: l, h => by
    rw [formedTs, Bool.and_eq_true] at h
    rw [okNs, formed_okN t h.1, formed_okNs l h.2]; rfl
end

set_option maxHeartbeats 4000000 in
theorem consts_all : ∀ n, n ≤ 1048576 → ∀ (t : Tm) (m : Nat) (f : Int → Option AV), t.size ≤ n → okN t = true → m + t.size ≤ 2097152 →
    MC Tryz.prog 239 [aT t, .mp 0] (.mp none m f) (.tup []) (.mp none (m + cntT t) (conT t f)) := by
  intro n
  induction n with
  | zero => intro hn t m f ht; have := t.size_pos; omega
  | succ n ih =>
  intro hn t m f ht hfm hm
  have ih := ih (by omega)
  have hs := t.size_eq
  have hlen := len_le_sizes t.kids
  have hml : m < maxLen := Nat.lt_of_le_of_lt (show m ≤ 2097152 by omega) (by decide)
  have hce := conT_eq t f
  have hne := cntT_eq t
  refine MC_intro hty Tryz.func239 rfl rfl rfl rfl rfl fun w0 B => ?_
  obtain ⟨f0, hf0⟩ : ∃ f0, f0 = if t.kind = 3 then putF f t.num (.bool true) else f := ⟨_, rfl⟩
  obtain ⟨m0, hm0⟩ : ∃ m0 : Nat, m0 = if t.kind = 3 then 1 else 0 := ⟨_, rfl⟩
  have hm1 : m0 ≤ 1 := by rw [hm0]; split <;> omega
  rw [← hf0] at hce
  rw [← hm0] at hne
  repeat' (first | refine WL_m rfl (m_mapUpdate hmapB hint rfl rfl rfl (wf_small (okN_num hfm (by assumption))) rfl rfl hml) ?_ | refine WL_p hty rfl rfl ?_ | refine WL_nil ?_ | refine AC_seq ?_ | refine AC_region ?_ | refine AC_block ?_ | refine AC_skip ?_ | refine AC_condT rfl ?_ | refine AC_condF rfl ?_ | refine AC_exit ?_ | refine AC_ret ?_ | refine WL_m rfl (m_idxN hty rfl rfl rfl (by assumption) rfl) ?_ | refine ends_bool rfl ?_ | refine WL_cmp rfl rfl rfl rfl (fun _ => ?_) (fun _ => ?_) | refine AC_cond rfl (fun _ => ?_) (fun _ => ?_))
  all_goals
    have hacc : ∀ (x : Nat) (y : Int → Option AV), x = m + m0 → y = f0 → AB.mp (some B) x y = AB.mp (some B) (m + m0 + cntTs (t.kids.take 0)) (conTs (t.kids.take 0) f0) := fun x y hx hy => by rw [hx, hy]; rfl
    refine AC_for t.kids.length (fun _ => True) (fun i => ⟨envOf [(1, .mp 0), (13, sT t.kids), (14, .int .i64 ((rsT t.kids).length : Nat)), (15, .int .i64 (i : Nat))], bkOf [(0, .mp (some B) (m + m0 + cntTs (t.kids.take i)) (conTs (t.kids.take i) f0))]⟩)
      (less_sub ⟨⟨_, rfl, .inl ⟨.refl _, rfl⟩⟩, ⟨_, rfl, .inl ⟨.refl _, rfl⟩⟩, ⟨_, rfl, .inl ⟨.refl _, rfl⟩⟩, ⟨_, rfl, .inl ⟨.refl _, rfl⟩⟩, trivial⟩ ⟨⟨⟨_, rfl, .of_eq ?_⟩, rfl⟩, trivial⟩) trivial ?_
    · refine hacc _ _ ?_ ?_
      · rw [hm0]; simp [*]
      · rw [hf0]; simp [*]
    clear hacc
    intro i hi _
    repeat' (first | refine WL_p hty rfl rfl ?_ | refine WL_nil ?_ | refine AC_seq ?_ | refine AC_region ?_ | refine AC_block ?_ | refine AC_skip ?_ | refine AC_condT rfl ?_ | refine AC_condF rfl ?_ | refine AC_exit ?_ | refine AC_ret ?_ | refine WL_m rfl (m_idxN hty rfl rfl rfl (by assumption) rfl) ?_ | refine ends_bool rfl ?_)
    refine WL_cmp rfl rfl rfl rfl (fun hc => ?_) (fun hc => ?_)
    · have hlt : i < t.kids.length := by rw [rsT_length] at hc; omega
      obtain ⟨k, hk, hmem⟩ := get_of_lt hlt
      have hks := size_le_sizes hmem
      have rk := rsT_get hk
      have hct := cntTs_le t.kids
      have htk := cntTs_take t.kids i
      have htk1 := cntTs_take t.kids (i + 1)
      have hnx := cntTs_next hk
      have hkc := ih k (m + m0 + cntTs (t.kids.take i)) (conTs (t.kids.take i) f0) (by omega) (okN_kids hfm hmem) (by have := cntTs_room hk; omega)
      rw [← conTs_next hk] at hkc
      repeat' (first | refine WL_m rfl (m_callM 0 rfl rfl rfl hkc rfl rfl) ?_ | refine WL_p hty rfl rfl ?_ | refine WL_nil ?_ | refine AC_seq ?_ | refine AC_region ?_ | refine AC_block ?_ | refine AC_skip ?_ | refine AC_condT rfl ?_ | refine AC_condF rfl ?_ | refine AC_exit ?_ | refine AC_ret ?_ | refine WL_m rfl (m_idxN hty rfl rfl rfl (by assumption) rfl) ?_ | refine ends_bool rfl ?_ | refine WL_cmp rfl rfl rfl rfl (fun _ => ?_) (fun _ => ?_) | refine AC_cond rfl (fun _ => ?_) (fun _ => ?_))
      refine ⟨hlt, trivial, (less_sub ⟨⟨_, rfl, .inl ⟨.refl _, rfl⟩⟩, ⟨_, rfl, .inl ⟨.refl _, rfl⟩⟩, ⟨_, rfl, .inl ⟨.refl _, rfl⟩⟩, ⟨_, rfl, see_eq ?_ rfl⟩, trivial⟩ ⟨⟨⟨_, rfl, .of_eq ?_⟩, rfl⟩, trivial⟩)⟩
      · exact congrArg (AV.int .i64) ((wrap_ok (by omega) (by omega)).trans (by omega))
      · refine congrArg (fun x => AB.mp (some B) x (conTs (t.kids.take (i + 1)) f0)) ?_
        omega
    · obtain rfl : i = t.kids.length := by rw [rsT_length] at hc; omega
      repeat' (first | refine WL_p hty rfl rfl ?_ | refine WL_nil ?_ | refine AC_seq ?_ | refine AC_region ?_ | refine AC_block ?_ | refine AC_skip ?_ | refine AC_condT rfl ?_ | refine AC_condF rfl ?_ | refine AC_exit ?_ | refine AC_ret ?_ | refine WL_m rfl (m_idxN hty rfl rfl rfl (by assumption) rfl) ?_ | refine ends_bool rfl ?_ | refine WL_cmp rfl rfl rfl rfl (fun _ => ?_) (fun _ => ?_) | refine AC_cond rfl (fun _ => ?_) (fun _ => ?_))
      refine endsM_end 0 rfl rfl rfl rfl rfl rfl (.of_eq ?_)
      rw [List.take_length, hce, hne, ← Nat.add_assoc]

end Go.Proofs.YtoknnfhgoikpiaaGreat

/-
  Whether a block has the right shape, in plain words.
-/
namespace Go.Proofs.YtoknnfhgoikpiaaGreat
set_option linter.unusedSimpArgs false
set_option linter.unusedVariables false
open Go.Aw Go.RowKit

abbrev cB (b : Bl) : List AV := [.lst 6 (rsS b.sorts) false, .lst 6 (rsC b.cons) false, .int .i64 b.elim]
def openT (t : Tm) (v : Int) : Bool := scopeT t v 65536
def openSeq : Int → List Tm → Bool
  | _, [] => true
  | i, t :: l => openT t i && openSeq (i + 1) l
theorem openSeq_append (a b : List Tm) : ∀ i : Int, openSeq i (a ++ b) = (openSeq i a && openSeq (i + a.length) b) := by
  induction a with
  | nil => intro i; simp [openSeq]
  | cons x a ih =>
    intro i
    simp only [List.cons_append, openSeq, ih, Bool.and_assoc, List.length_cons]
    rw [show i + 1 + (a.length : Int) = i + ((a.length + 1 : Nat) : Int) by omega]
theorem openSeq_split {l : List Tm} {j : Nat} {x : Tm} (h : l[j]? = some x) (i : Int) : openSeq i l = (openSeq i (l.take j) && (openT x (i + (j : Nat)) && openSeq (i + (j : Nat) + 1) (l.drop (j + 1)))) := by
  have hlt : j < l.length := (List.getElem?_eq_some_iff.1 h).1
  conv => lhs; rw [← List.take_append_drop j l, openSeq_append, List.drop_eq_getElem_cons hlt, openSeq]
  have h1 : (l.take j).length = j := by rw [List.length_take]; omega
  have h2 : l[j] = x := by rw [List.getElem?_eq_getElem hlt] at h; exact Option.some.inj h
  rw [h1, h2]
theorem openSeq_take_succ {l : List Tm} {j : Nat} {x : Tm} (h : l[j]? = some x) (i : Int) : openSeq i (l.take (j + 1)) = (openSeq i (l.take j) && openT x (i + (j : Nat))) := by
  have hlt : j < l.length := (List.getElem?_eq_some_iff.1 h).1
  have h1 : (l.take j).length = j := by rw [List.length_take]; omega
  rw [List.take_add_one, h, Option.toList_some, openSeq_append, h1]
  simp [openSeq]

/-- How many indices a sort has. -/
def idxN (b : Bl) (s : Int) : Nat := match b.sorts[s.toNat]? with
  | some x => x.idx.length
  | none => 0
def argB (b : Bl) (a : Ar) (i : Int) : Bool := if a.rc = true
  then (decide (a.typ = zT) && (decide (a.dom.length ≤ 12) && (inR a.sort 0 ((b.sorts.length : Int) - 1) && decide (a.idx.length = idxN b a.sort)))) && (openSeq i a.dom && a.idx.all fun t => openT t (i + a.dom.length))
  else openT a.typ i && (decide ((a.dom.length : Int) + a.idx.length = 0) && decide (a.sort = 0))

def argSeq (b : Bl) : Int → List Ar → Bool
  | _, [] => true
  | i, t :: l => argB b t i && argSeq b (i + 1) l
theorem argSeq_append (b : Bl) (x y : List Ar) : ∀ i : Int, argSeq b i (x ++ y) = (argSeq b i x && argSeq b (i + x.length) y) := by
  induction x with
  | nil => intro i; simp [argSeq]
  | cons z a ih =>
    intro i
    simp only [List.cons_append, argSeq, ih, Bool.and_assoc, List.length_cons]
    rw [show i + 1 + (a.length : Int) = i + ((a.length + 1 : Nat) : Int) by omega]
theorem argSeq_split {b : Bl} {l : List Ar} {j : Nat} {x : Ar} (h : l[j]? = some x) (i : Int) : argSeq b i l = (argSeq b i (l.take j) && (argB b x (i + (j : Nat)) && argSeq b (i + (j : Nat) + 1) (l.drop (j + 1)))) := by
  have hlt : j < l.length := (List.getElem?_eq_some_iff.1 h).1
  conv => lhs; rw [← List.take_append_drop j l, argSeq_append, List.drop_eq_getElem_cons hlt, argSeq]
  have h1 : (l.take j).length = j := by rw [List.length_take]; omega
  have h2 : l[j] = x := by rw [List.getElem?_eq_getElem hlt] at h; exact Option.some.inj h
  rw [h1, h2]
theorem argSeq_take_succ {b : Bl} {l : List Ar} {j : Nat} {x : Ar} (h : l[j]? = some x) (i : Int) : argSeq b i (l.take (j + 1)) = (argSeq b i (l.take j) && argB b x (i + (j : Nat))) := by
  have hlt : j < l.length := (List.getElem?_eq_some_iff.1 h).1
  have h1 : (l.take j).length = j := by rw [List.length_take]; omega
  rw [List.take_add_one, h, Option.toList_some, argSeq_append, h1]
  simp [argSeq]

/-- Whether a sort decodes. -/
def decS (b : Bl) (s : Int) : Bool := match b.sorts[s.toNat]? with
  | some x => x.dec
  | none => false
def conB (b : Bl) (c : Cn) : Bool :=
  (inR c.sort 0 ((b.sorts.length : Int) - 1) && (decide (c.args.length ≤ 12) && decide (c.idx.length = idxN b c.sort))) &&
    (argSeq b 0 c.args && ((c.idx.all fun t => openT t c.args.length) && (if decS b c.sort = true then openT c.dec c.args.length else decide (c.dec = zT))))

theorem fc_eq {f : Nat} {args : List AV} {r r' : AV} (h : FC Tryz.prog f args r) (e : r = r') : FC Tryz.prog f args r' := e ▸ h

def rowB (b : Bl) (l : List Ar) : Bool := decide (l.length ≤ 12) && argSeq b 0 l
def maybeB (d : Bool) (t : Tm) (v : Int) : Bool := if d = true then openT t v else decide (t = zT)
def sortBad (k : Int) (d : Bool) (a : Ar) : Bool := a.rc && (decide (0 < a.dom.length) || (decide (k ≤ a.sort) || d))
def sortB (b : Bl) (k : Nat) (s : Sr) : Bool := rowB b s.idx && (inR s.level 0 6 && (maybeB s.dec s.decT s.idx.length && !(s.idx.any (sortBad k s.dec))))
def sortsB (b : Bl) : Nat → List Sr → Bool
  | _, [] => true
  | k, s :: l => sortB b k s && sortsB b (k + 1) l
theorem sortsB_iff {b : Bl} : ∀ {l : List Sr} {k : Nat}, sortsB b k l = true ↔ ∀ i s, l[i]? = some s → sortB b (k + i) s = true
  | [], k => by simp [sortsB]
  | a :: l, k => by
    simp only [sortsB, Bool.and_eq_true, sortsB_iff (l := l)]
    constructor
    · rintro ⟨h1, h2⟩ i s hs
      cases i with
      | zero => obtain rfl := Option.some.inj (show some a = some s from hs); exact h1
      | succ i => have := h2 i s (by simpa using hs); rwa [Nat.add_right_comm, Nat.add_assoc] at this
    · intro h
      refine ⟨h 0 a rfl, fun i s hs => ?_⟩
      have := h (i + 1) s (by simpa using hs)
      rwa [show k + (i + 1) = k + 1 + i by omega] at this
def shapeB (b : Bl) : Bool := inR (b.sorts.length : Nat) 1 4 && (decide (b.cons.length ≤ 8) && (inR b.elim 0 6 && (sortsB b 0 b.sorts && b.cons.all (conB b))))

end Go.Proofs.YtoknnfhgoikpiaaGreat

/-
  All terms of arguments; the greatest of numbers.
-/
namespace Go.Proofs.YtoknnfhgoikpiaaGreat
set_option linter.unusedSimpArgs false
set_option linter.unusedVariables false
open Go.Aw Go.RowKit
def tbNames196_5 : List (Nat × List Nat) := [(0, []), (1, []), (2, [1]), (3, [1, 2]), (4, [0, 1, 2, 3]), (5, []), (6, [5]), (7, [0, 1, 2, 3, 4, 5, 6]), (8, []), (9, [8]), (10, [0, 1, 2, 3, 4, 5, 6, 7, 8, 9]), (11, [0, 1, 2, 3, 4, 5, 6, 7, 8, 9, 10])]
attribute [local irreducible] WL AC WD WE MStep OkOp

/-! the greatest -/
def gI (a b : Int) : Int := if b > a then b else a
def maxL : Int → List Int → Int
  | a, [] => a
  | a, b :: l => maxL (gI a b) l
theorem maxL_append (a : Int) (l m : List Int) : maxL a (l ++ m) = maxL (maxL a l) m := by
  induction l generalizing a with
  | nil => rfl
  | cons b l ih => exact ih (gI a b)

theorem slMax_spec (x : Int) (l : List Int) (hl : l.length ≤ 1048576) : FC Tryz.prog 197 [.lst 1 (rsI (x :: l)) false] (.int .i64 (maxL x l)) := by
  refine FC_intro hty Tryz.func197 rfl rfl rfl fun w0 => ?_
  have r0 : (rsI (x :: l))[0]? = some [.int .i64 x] := rfl
  have hn : ¬ ((rsI (x :: l)).length : Int) < 1 := by rw [rsI_length, List.length_cons]; omega
  repeat' (first | exact absurd (by assumption) hn | refine WL_m rfl (m_idxN (i := 0) hty rfl rfl rfl r0 rfl) ?_ | refine WL_p hty rfl rfl ?_ | refine WL_nil ?_ | refine AC_seq ?_ | refine AC_region ?_ | refine AC_block ?_ | refine AC_skip ?_ | refine AC_condT rfl ?_ | refine AC_condF rfl ?_ | refine AC_exit ?_ | refine AC_ret ?_ | refine WL_m rfl (m_idxN hty rfl rfl rfl (by assumption) rfl) ?_ | refine ends_bool rfl ?_ | refine WL_cmp rfl rfl rfl rfl (fun _ => ?_) (fun _ => ?_) | refine AC_cond rfl (fun _ => ?_) (fun _ => ?_))
  refine AC_for l.length (fun _ => True) (fun i => ⟨envOf [(0, .lst 1 (rsI (x :: l)) false), (3, .int .i64 (maxL x (l.take i))), (4, .int .i64 ((i + 1 : Nat) : Int))], bkOf []⟩)
    (less_sub ⟨⟨_, rfl, .inl ⟨.refl _, rfl⟩⟩, ⟨_, rfl, .inl ⟨.refl _, rfl⟩⟩, ⟨_, rfl, .inl ⟨.refl _, rfl⟩⟩, trivial⟩ trivial) trivial ?_
  intro i hi _
  repeat' (first | refine WL_p hty rfl rfl ?_ | refine WL_nil ?_ | refine AC_seq ?_ | refine AC_region ?_ | refine AC_block ?_ | refine AC_skip ?_ | refine AC_condT rfl ?_ | refine AC_condF rfl ?_ | refine AC_exit ?_ | refine AC_ret ?_ | refine WL_m rfl (m_idxN hty rfl rfl rfl (by assumption) rfl) ?_ | refine ends_bool rfl ?_)
  refine WL_cmp rfl rfl rfl rfl (fun hc => ?_) (fun hc => ?_)
  · have hlt : i < l.length := by rw [rsI_length, List.length_cons] at hc; omega
    have hy : l[i]? = some l[i] := List.getElem?_eq_getElem hlt
    have ry : (rsI (x :: l))[i + 1]? = some [.int .i64 l[i]] := rsI_get (l := x :: l) (i := i + 1) (by simp)
    repeat' (first | refine WL_m rfl (m_idxN (i := i + 1) hty rfl rfl rfl ry rfl) ?_ | refine WL_m rfl (m_max rfl rfl rfl) ?_ | refine WL_p hty rfl rfl ?_ | refine WL_nil ?_ | refine AC_seq ?_ | refine AC_region ?_ | refine AC_block ?_ | refine AC_skip ?_ | refine AC_condT rfl ?_ | refine AC_condF rfl ?_ | refine AC_exit ?_ | refine AC_ret ?_ | refine WL_m rfl (m_idxN hty rfl rfl rfl (by assumption) rfl) ?_ | refine ends_bool rfl ?_ | refine WL_cmp rfl rfl rfl rfl (fun _ => ?_) (fun _ => ?_) | refine AC_cond rfl (fun _ => ?_) (fun _ => ?_))
    refine ⟨hlt, trivial, (less_sub ⟨⟨_, rfl, .inl ⟨.refl _, rfl⟩⟩, ⟨_, rfl, see_eq ?_ rfl⟩, ⟨_, rfl, see_eq ?_ rfl⟩, trivial⟩ trivial)⟩
    · refine congrArg (AV.int .i64) ?_
      rw [List.take_add_one, hy, Option.toList_some, maxL_append]
      rfl
    · exact congrArg (AV.int .i64) ((wrap_ok (by omega) (by omega)).trans (by omega))
  · obtain rfl : i = l.length := by rw [rsI_length, List.length_cons] at hc; omega
    repeat' (first | refine WL_p hty rfl rfl ?_ | refine WL_nil ?_ | refine AC_seq ?_ | refine AC_region ?_ | refine AC_block ?_ | refine AC_skip ?_ | refine AC_condT rfl ?_ | refine AC_condF rfl ?_ | refine AC_exit ?_ | refine AC_ret ?_ | refine WL_m rfl (m_idxN hty rfl rfl rfl (by assumption) rfl) ?_ | refine ends_bool rfl ?_ | refine WL_cmp rfl rfl rfl rfl (fun _ => ?_) (fun _ => ?_) | refine AC_cond rfl (fun _ => ?_) (fun _ => ?_))
    refine ends_int rfl ?_
    rw [List.take_length]

/-! all terms of arguments -/
def tmsA (a : Ar) : List Tm := a.typ :: (a.dom ++ a.idx)
def termsA (l : List Ar) : List Tm := l.flatMap tmsA
theorem termsA_next {l : List Ar} {i : Nat} {a : Ar} (h : l[i]? = some a) : termsA (l.take (i + 1)) = termsA (l.take i) ++ tmsA a := by
  unfold termsA
  rw [List.take_add_one, h, Option.toList_some, List.flatMap_append]
  simp
theorem tmsA_size (a : Ar) : sizes (tmsA a) ≤ a.size := by
  unfold tmsA Ar.size
  simp only [sizes, sizes_append]; omega
theorem termsA_size (l : List Ar) : sizes (termsA l) ≤ sizesA l := by
  induction l with
  | nil => exact Nat.le_refl _
  | cons a l ih =>
    have := tmsA_size a
    unfold termsA at *
    rw [List.flatMap_cons, sizes_append]
    simp only [sizesA]; omega
theorem termsA_take (l : List Ar) (i : Nat) : sizes (termsA (l.take i)) + sizes (termsA (l.drop i)) = sizes (termsA l) := by
  conv => rhs; rw [← List.take_append_drop i l]
  unfold termsA
  rw [List.flatMap_append, sizes_append]

set_option maxHeartbeats 4000000 in
theorem termsOf_spec (l : List Ar) (hl : sizesA l ≤ 1048576) : FC Tryz.prog 196 [sA l] (.lst 3 (rsT (termsA l)) false) := by
  have hlen := len_le_sizesA l
  refine FC_intro hty Tryz.func196 rfl rfl rfl fun w0 => ?_
  repeat' (first | refine WL_p hty rfl rfl ?_ | refine WL_nil ?_ | refine AC_seq ?_ | refine AC_region ?_ | refine AC_block ?_ | refine AC_skip ?_ | refine AC_condT rfl ?_ | refine AC_condF rfl ?_ | refine AC_exit ?_ | refine AC_ret ?_ | refine WL_m rfl (m_idxN hty rfl rfl rfl (by assumption) rfl) ?_ | refine ends_bool rfl ?_ | refine WL_cmp rfl rfl rfl rfl (fun _ => ?_) (fun _ => ?_) | refine AC_cond rfl (fun _ => ?_) (fun _ => ?_))
  refine AC_less (less_gone 103 rfl) ?_
  refine AC_for l.length (fun _ => True) (fun i => ⟨envOf [(3, grV 103 3 (rsT (termsA (l.take i)))), (6, sA l), (7, .int .i64 ((rsA l).length : Nat)), (8, .int .i64 (i : Nat))], bkOf [(103, grB 25 3 (rsT (termsA (l.take i))))]⟩)
    (less_sub ⟨⟨_, rfl, .inl ⟨.nil _ _ _, rfl⟩⟩, ⟨_, rfl, .inl ⟨.refl _, rfl⟩⟩, ⟨_, rfl, .inl ⟨.refl _, rfl⟩⟩, ⟨_, rfl, .inl ⟨.refl _, rfl⟩⟩, trivial⟩ ⟨⟨⟨_, rfl, .refl _⟩, rfl⟩, trivial⟩) trivial ?_
  intro i hi _
  repeat' (first | refine WL_p hty rfl rfl ?_ | refine WL_nil ?_ | refine AC_seq ?_ | refine AC_region ?_ | refine AC_block ?_ | refine AC_skip ?_ | refine AC_condT rfl ?_ | refine AC_condF rfl ?_ | refine AC_exit ?_ | refine AC_ret ?_ | refine WL_m rfl (m_idxN hty rfl rfl rfl (by assumption) rfl) ?_ | refine ends_bool rfl ?_)
  refine WL_cmp rfl rfl rfl rfl (fun hc => ?_) (fun hc => ?_)
  · have hlt : i < l.length := by rw [rsA_length] at hc; omega
    obtain ⟨a, ha, hmem⟩ := get_of_lt hlt
    have ra := rsA_get ha
    have has := size_le_sizesA hmem
    unfold Ar.size at has
    have hd := len_le_sizes a.dom
    have hx := len_le_sizes a.idx
    have ht1 := termsA_take l i
    have ht2 := termsA_size l
    have ht3 := len_le_sizes (termsA (l.take i))
    repeat' (first | refine AC_drawnE (id := 5) tbNames196_5 rfl (by kernel_rfl) ?_ | refine WE_cons (.inl ⟨rfl, m_appG hty 301 rfl rfl rfl rfl rfl rfl rfl (by simp only [rsT_length, List.length_append, List.length_cons, List.length_nil]; omega) rfl rfl rfl⟩) ?_ | refine WE_cons (.inl ⟨rfl, m_appG hty 302 rfl rfl rfl rfl rfl rfl rfl (by simp only [rsT_length, List.length_append, List.length_cons, List.length_nil]; omega) rfl rfl rfl⟩) ?_ | refine WE_cons (.inl ⟨rfl, m_appG hty 303 rfl rfl rfl rfl rfl rfl rfl (by simp only [rsT_length, List.length_append, List.length_cons, List.length_nil]; omega) rfl rfl rfl⟩) ?_ | refine WE_cons (.inl ⟨rfl, stepE_ok hty rfl rfl⟩) ?_ | refine WE_nil ⟨by kernel_rfl, ?_⟩ | refine WL_p hty rfl rfl ?_ | refine WL_nil ?_ | refine AC_seq ?_ | refine AC_region ?_ | refine AC_block ?_ | refine AC_skip ?_ | refine AC_condT rfl ?_ | refine AC_condF rfl ?_ | refine AC_exit ?_ | refine AC_ret ?_ | refine WL_m rfl (m_idxN hty rfl rfl rfl (by assumption) rfl) ?_ | refine ends_bool rfl ?_ | refine WL_cmp rfl rfl rfl rfl (fun _ => ?_) (fun _ => ?_) | refine AC_cond rfl (fun _ => ?_) (fun _ => ?_))
    have hnx : rsT (termsA (l.take i)) ++ [cT a.typ] ++ rsT a.dom ++ rsT a.idx = rsT (termsA (l.take (i + 1))) := by
      rw [termsA_next ha, rsT_append]
      simp only [tmsA, rsT, rT_eq, rsT_append, List.append_assoc, List.cons_append, List.nil_append]
    refine ⟨hlt, trivial, (less_ren [(103, 303)] rfl ⟨⟨_, rfl, .inl ⟨wk_gr rfl ?_, keep_gr rfl⟩⟩, ⟨_, rfl, .inl ⟨.refl _, rfl⟩⟩, ⟨_, rfl, .inl ⟨.refl _, rfl⟩⟩, ⟨_, rfl, see_eq ?_ rfl⟩, trivial⟩ ⟨⟨⟨_, rfl, wkB_gr ?_⟩, keepB_gr⟩, trivial⟩)⟩
    · exact hnx
    · exact congrArg (AV.int .i64) ((wrap_ok (by omega) (by omega)).trans (by omega))
    · exact hnx
  · obtain rfl : i = l.length := by rw [rsA_length] at hc; omega
    repeat' (first | refine WL_less (less_gr 3 103 rfl rfl) ?_ | refine WL_p hty rfl rfl ?_ | refine WL_nil ?_ | refine AC_seq ?_ | refine AC_region ?_ | refine AC_block ?_ | refine AC_skip ?_ | refine AC_condT rfl ?_ | refine AC_condF rfl ?_ | refine AC_exit ?_ | refine AC_ret ?_ | refine WL_m rfl (m_idxN hty rfl rfl rfl (by assumption) rfl) ?_ | refine ends_bool rfl ?_ | refine WL_cmp rfl rfl rfl rfl (fun _ => ?_) (fun _ => ?_) | refine AC_cond rfl (fun _ => ?_) (fun _ => ?_))
    refine ends_is rfl rfl ?_
    rw [List.take_length]

/-! the constants of a term, in order -/
def keysI (l : List Int) : AV := match l with
  | [] => .lst 1 [] true
  | x :: r => .own 3 1 (rsI (x :: r)) true
def nokeys : Int → Option AV := fun _ => none
def IsKeys (f : Int → Option AV) (n : Nat) (r : AV) : Prop := ∃ zs : List Int, (∀ i, i ∈ zs ↔ (f i).isSome = true) ∧ zs.length ≤ n ∧ r = keysI zs

set_option maxHeartbeats 4000000 in
theorem tConsts_spec (t : Tm) (hs : t.size ≤ 1048576) (hfm : okN t = true) : RC Tryz.prog 198 [aT t] (IsKeys (conT t nokeys) t.size) := by
  have hc := consts_all 1048576 (Nat.le_refl _) t 0 nokeys hs hfm (by omega)
  have hcl := cntT_le t
  rw [Nat.zero_add] at hc
  refine RC_intro hty Tryz.func198 rfl rfl rfl fun w0 => ?_
  repeat' (first | refine WL_m rfl (m_makeMapO 50 rfl rfl) ?_ | refine WL_m rfl (m_callM 50 rfl rfl rfl hc rfl rfl) ?_ | refine WL_m rfl (m_keys sortedOf 60 rfl rfl rfl) ?_ | refine WL_sorted sortedOf hint 70 rfl rfl rfl rfl (by omega) rfl (fun h0 => ?_) (fun zs hne hl hmem => ?_) | refine WL_p hty rfl rfl ?_ | refine WL_nil ?_ | refine AC_seq ?_ | refine AC_region ?_ | refine AC_skip ?_ | refine AC_ret ?_ | refine ends_bool rfl ?_)
  · exact ⟨.lst 1 [] true, ⟨[], fun i => by rw [h0 i]; simp, Nat.zero_le _, rfl⟩, ends_is rfl rfl rfl⟩
  · cases zs with
    | nil => exact absurd rfl hne
    | cons x r => exact ⟨.own 3 1 (rsI (x :: r)) true, ⟨x :: r, hmem, Nat.le_trans hl hcl, rfl⟩, ends_own rfl rfl rfl⟩

end Go.Proofs.YtoknnfhgoikpiaaGreat

/-
  The greatest constant that a block names.
-/
namespace Go.Proofs.YtoknnfhgoikpiaaGreat
set_option linter.unusedSimpArgs false
set_option linter.unusedVariables false
open Go.Aw Go.RowKit
def tbNames2140_5 : List (Nat × List Nat) := [(0, []), (1, []), (2, [1]), (3, [1, 2]), (4, [0, 1, 2, 3]), (5, []), (6, [5]), (7, [0, 1, 2, 3, 4, 5, 6]), (8, [0, 1, 2, 3, 4, 5, 6, 7]), (9, [0, 1, 2, 3, 4, 5, 6, 7, 8])]
def tbNames2140_10 : List (Nat × List Nat) := [(0, []), (1, []), (2, [1]), (3, [1, 2]), (4, [0, 1, 2, 3]), (5, []), (6, [5]), (7, [0, 1, 2, 3, 4, 5, 6]), (8, []), (9, [8]), (10, [0, 1, 2, 3, 4, 5, 6, 7, 8, 9]), (11, [0, 1, 2, 3, 4, 5, 6, 7, 8, 9, 10]), (12, [0, 1, 2, 3, 4, 5, 6, 7, 8, 9, 10, 11])]
attribute [local irreducible] WL AC WD WE MStep OkOp

/-! the greatest constant of a term -/
mutual
def mostT : Tm → Int → Int
  | .mk k n l, a => mostTs l (if k = 3 then gI a n else a)
def mostTs : List Tm → Int → Int
  | [], a => a
  | t :: l, a => mostTs l (mostT t a)
end
theorem mostTs_append (l m : List Tm) : ∀ a : Int, mostTs (l ++ m) a = mostTs m (mostTs l a) := by
  induction l with
  | nil => intro a; rfl
  | cons t l ih => intro a; exact ih (mostT t a)
theorem gI_le (a b : Int) : a ≤ gI a b ∧ b ≤ gI a b := by unfold gI; split <;> omega
theorem gI_or (a b : Int) : gI a b = a ∨ gI a b = b := by unfold gI; split <;> simp
mutual
theorem mostT_g : ∀ (t : Tm) (a b : Int), mostT t (gI a b) = gI a (mostT t b)
  | .mk k n l, a, b => by
    rw [mostT, mostT]
    split
    · rw [show gI (gI a b) n = gI a (gI b n) by unfold gI; split <;> split <;> (try split) <;> omega]
      exact mostTs_g l a _
    · exact mostTs_g l a b
theorem mostTs_g : ∀ (l : List Tm) (a b : Int), mostTs l (gI a b) = gI a (mostTs l b)
  | [], _, _ => rfl
  | t :: l, a, b => by rw [mostTs, mostT_g t, mostTs_g l]; rfl
end
mutual
theorem mostT_ge : ∀ (t : Tm) (a : Int), a ≤ mostT t a
  | .mk k n l, a => by
    rw [mostT]
    refine Int.le_trans ?_ (mostTs_ge l (if k = 3 then gI a n else a))
    split
    · exact (gI_le a n).1
    · exact Int.le_refl a
theorem mostTs_ge : ∀ (l : List Tm) (a : Int), a ≤ mostTs l a
  | [], a => Int.le_refl a
  | t :: l, a => Int.le_trans (mostT_ge t a) (mostTs_ge l (mostT t a))
end

def Up (f : Int → Option AV) (a : Int) : Prop := (∀ i, (f i).isSome = true → i ≤ a) ∧ (a = -1 ∨ (f a).isSome = true)
theorem Up.put {f : Int → Option AV} {a n : Int} {v : AV} (h : Up f a) : Up (putF f n v) (gI a n) := by
  obtain ⟨h1, h2⟩ := h
  obtain ⟨g1, g2⟩ := gI_le a n
  refine ⟨fun i hi => ?_, ?_⟩
  · unfold putF at hi
    split at hi
    · rename_i e; rw [e]; exact g2
    · exact Int.le_trans (h1 i hi) g1
  · unfold putF
    rcases gI_or a n with e | e
    · rw [e]
      rcases h2 with h2 | h2
      · exact .inl h2
      · right; split
        · rfl
        · exact h2
    · rw [e]; right; rw [if_pos rfl]; rfl
mutual
theorem up_conT : ∀ (t : Tm) {f : Int → Option AV} {a : Int}, Up f a → Up (conT t f) (mostT t a)
  | .mk k n l, f, a, h => by
    rw [conT, mostT]
    refine up_conTs l ?_
    split
    · exact h.put
    · exact h
theorem up_conTs : ∀ (l : List Tm) {f : Int → Option AV} {a : Int}, Up f a → Up (conTs l f) (mostTs l a)
  | [], _, _, h => h
  | t :: l, f, a, h => by rw [conTs, mostTs]; exact up_conTs l (up_conT t h)
end
theorem maxL_is : ∀ (l : List Int) (x : Int), (x ≤ maxL x l ∧ ∀ y, y ∈ l → y ≤ maxL x l) ∧ (maxL x l = x ∨ maxL x l ∈ l)
  | [], x => ⟨⟨Int.le_refl x, fun y h => by cases h⟩, .inl rfl⟩
  | b :: l, x => by
    obtain ⟨⟨h1, h2⟩, h3⟩ := maxL_is l (gI x b)
    obtain ⟨g1, g2⟩ := gI_le x b
    rw [maxL]
    refine ⟨⟨Int.le_trans g1 h1, fun y hy => ?_⟩, ?_⟩
    · rcases List.mem_cons.1 hy with rfl | hy
      · exact Int.le_trans g2 h1
      · exact h2 y hy
    · rcases h3 with h3 | h3
      · rcases gI_or x b with e | e
        · left; rw [h3, e]
        · right; rw [h3, e]; exact List.mem_cons_self
      · exact .inr (List.mem_cons_of_mem _ h3)
/-- The greatest of the keys, and of -1. -/
theorem maxL_keys {f : Int → Option AV} {a : Int} (h : Up f a) (ha : -1 ≤ a) {x : Int} {l : List Int} (hm : ∀ i, i ∈ (x :: l) ↔ i = -1 ∨ (f i).isSome = true) : maxL x l = a := by
  obtain ⟨⟨h1, h2⟩, h3⟩ := maxL_is l x
  have hle : ∀ i, i ∈ (x :: l) → i ≤ maxL x l := fun i hi => by
    rcases List.mem_cons.1 hi with rfl | hi
    · exact h1
    · exact h2 i hi
  have hin : maxL x l ∈ (x :: l) := by
    rcases h3 with h3 | h3
    · rw [h3]; exact List.mem_cons_self
    · exact List.mem_cons_of_mem _ h3
  apply Int.le_antisymm
  · rcases (hm _).1 hin with e | e
    · rw [e]; exact ha
    · exact h.1 _ e
  · refine hle a ((hm a).2 ?_)
    exact h.2

/-! all terms of a block -/
def tmsS (s : Sr) : List Tm := s.decT :: termsA s.idx
def tmsC (c : Cn) : List Tm := c.dec :: (c.idx ++ termsA c.args)
def termsS (l : List Sr) : List Tm := l.flatMap tmsS
def termsC (l : List Cn) : List Tm := l.flatMap tmsC
def termsB (b : Bl) : List Tm := termsS b.sorts ++ termsC b.cons
theorem SrT_size (a : Sr) : sizes (termsA a.idx) ≤ sizesA a.idx := termsA_size _
theorem CnT_size (a : Cn) : sizes (termsA a.args) ≤ sizesA a.args := termsA_size _
theorem termsS_next {l : List Sr} {i : Nat} {a : Sr} (h : l[i]? = some a) : termsS (l.take (i + 1)) = termsS (l.take i) ++ tmsS a := by
  unfold termsS
  rw [List.take_add_one, h, Option.toList_some, List.flatMap_append]
  simp
theorem termsS_take (l : List Sr) (i : Nat) : sizes (termsS (l.take i)) + sizes (termsS (l.drop i)) = sizes (termsS l) := by
  conv => rhs; rw [← List.take_append_drop i l]
  unfold termsS
  rw [List.flatMap_append, sizes_append]
theorem tmsS_size (a : Sr) : sizes (tmsS a) ≤ a.size := by
  unfold tmsS Sr.size
  have h1 := SrT_size a
  simp only [sizes, sizes_append]; omega
theorem termsS_size (l : List Sr) : sizes (termsS l) ≤ sizesS l := by
  induction l with
  | nil => exact Nat.le_refl _
  | cons a l ih =>
    have := tmsS_size a
    unfold termsS at *
    rw [List.flatMap_cons, sizes_append]
    simp only [sizesS]; omega
theorem termsC_next {l : List Cn} {i : Nat} {a : Cn} (h : l[i]? = some a) : termsC (l.take (i + 1)) = termsC (l.take i) ++ tmsC a := by
  unfold termsC
  rw [List.take_add_one, h, Option.toList_some, List.flatMap_append]
  simp
theorem termsC_take (l : List Cn) (i : Nat) : sizes (termsC (l.take i)) + sizes (termsC (l.drop i)) = sizes (termsC l) := by
  conv => rhs; rw [← List.take_append_drop i l]
  unfold termsC
  rw [List.flatMap_append, sizes_append]
theorem tmsC_size (a : Cn) : sizes (tmsC a) ≤ a.size := by
  unfold tmsC Cn.size
  have h1 := CnT_size a
  simp only [sizes, sizes_append]; omega
theorem termsC_size (l : List Cn) : sizes (termsC l) ≤ sizesC l := by
  induction l with
  | nil => exact Nat.le_refl _
  | cons a l ih =>
    have := tmsC_size a
    unfold termsC at *
    rw [List.flatMap_cons, sizes_append]
    simp only [sizesC]; omega
def namesB (b : Bl) : Int := mostTs (termsB b) (-1)
theorem grO_keys {f : Int → Option AV} {a : Int} (h : Up f a) (ha : -1 ≤ a) {zs : List Int} (hm : ∀ i, i ∈ zs ↔ (f i).isSome = true) : ∃ x l, zs ++ [-1] = x :: l ∧ maxL x l = a := by
  have key : ∀ x l, zs ++ [-1] = x :: l → maxL x l = a := fun x l e => maxL_keys h ha (fun i => by
    rw [← e, List.mem_append, hm i, List.mem_singleton]
    exact Or.comm)
  cases zs with
  | nil => exact ⟨-1, [], rfl, key _ _ rfl⟩
  | cons x l => exact ⟨x, l ++ [-1], rfl, key _ _ rfl⟩
theorem up_none : Up nokeys (-1) := ⟨fun i h => by (cases h), .inl rfl⟩

set_option maxHeartbeats 8000000 in
theorem names_spec (b : Bl) (hb : b.size ≤ 1048576) (hok : ∀ t, t ∈ termsB b → okN t = true) : FC Tryz.prog 140 [aB b] (.int .i64 (namesB b)) := by
  unfold Bl.size at hb
  have hsl := len_le_sizesS b.sorts
  have hcl := len_le_sizesC b.cons
  have hs2 := termsS_size b.sorts
  have hc2 := termsC_size b.cons
  refine FC_intro hty Tryz.func140 rfl rfl rfl fun w0 => ?_
  repeat' (first | refine WL_p hty rfl rfl ?_ | refine WL_nil ?_ | refine AC_seq ?_ | refine AC_region ?_ | refine AC_block ?_ | refine AC_skip ?_ | refine AC_condT rfl ?_ | refine AC_condF rfl ?_ | refine AC_exit ?_ | refine AC_ret ?_ | refine WL_m rfl (m_idxN hty rfl rfl rfl (by assumption) rfl) ?_ | refine ends_bool rfl ?_ | refine WL_cmp rfl rfl rfl rfl (fun _ => ?_) (fun _ => ?_) | refine AC_cond rfl (fun _ => ?_) (fun _ => ?_))
  refine AC_less (less_gone 103 rfl) ?_
  refine AC_for b.sorts.length (fun _ => True) (fun i => ⟨envOf [(1, .ptr 1 0), (3, grV 103 3 (rsT (termsS (b.sorts.take i)))), (12, sS b.sorts), (13, .int .i64 ((rsS b.sorts).length : Nat)), (14, .int .i64 (i : Nat))], bkOf [(1, .box (cB b)), (103, grB 25 3 (rsT (termsS (b.sorts.take i))))]⟩)
    (less_sub ⟨⟨_, rfl, .inl ⟨.refl _, rfl⟩⟩, ⟨_, rfl, .inl ⟨.nil _ _ _, rfl⟩⟩, ⟨_, rfl, .inl ⟨.refl _, rfl⟩⟩, ⟨_, rfl, .inl ⟨.refl _, rfl⟩⟩, ⟨_, rfl, .inl ⟨.refl _, rfl⟩⟩, trivial⟩ ⟨⟨⟨_, rfl, .refl _⟩, rfl⟩, ⟨⟨_, rfl, .refl _⟩, rfl⟩, trivial⟩) trivial ?_
  · intro i hi _
    repeat' (first | refine WL_p hty rfl rfl ?_ | refine WL_nil ?_ | refine AC_seq ?_ | refine AC_region ?_ | refine AC_block ?_ | refine AC_skip ?_ | refine AC_condT rfl ?_ | refine AC_condF rfl ?_ | refine AC_exit ?_ | refine AC_ret ?_ | refine WL_m rfl (m_idxN hty rfl rfl rfl (by assumption) rfl) ?_ | refine ends_bool rfl ?_)
    refine WL_cmp rfl rfl rfl rfl (fun hc => ?_) (fun hc => ?_)
    · have hlt : i < b.sorts.length := by rw [rsS_length] at hc; omega
      obtain ⟨a, ha, hmem⟩ := get_of_lt hlt
      have ra := rsS_get ha
      have has := size_le_sizesS hmem
      unfold Sr.size at has
      have ht := termsOf_spec a.idx (by omega)
      have hx := len_le_sizes (termsA a.idx)
      have hx2 := termsA_size a.idx
      have ht1 := termsS_take b.sorts i
      have ht3 := len_le_sizes (termsS (b.sorts.take i))
      repeat' (first | refine AC_drawnE (id := 5) tbNames2140_5 rfl (by kernel_rfl) ?_ | refine WE_cons (.inl ⟨rfl, m_call 0 rfl ht rfl rfl rfl⟩) ?_ | refine WE_cons (.inl ⟨rfl, m_appG hty 301 rfl rfl rfl rfl rfl rfl rfl (by simp only [rsT_length, List.length_append, List.length_cons, List.length_nil]; omega) rfl rfl rfl⟩) ?_ | refine WE_cons (.inl ⟨rfl, m_appG hty 302 rfl rfl rfl rfl rfl rfl rfl (by simp only [rsT_length, List.length_append, List.length_cons, List.length_nil]; omega) rfl rfl rfl⟩) ?_ | refine WE_cons (.inl ⟨rfl, stepE_ok hty rfl rfl⟩) ?_ | refine WE_nil ⟨by kernel_rfl, ?_⟩ | refine WL_p hty rfl rfl ?_ | refine WL_nil ?_ | refine AC_seq ?_ | refine AC_region ?_ | refine AC_block ?_ | refine AC_skip ?_ | refine AC_condT rfl ?_ | refine AC_condF rfl ?_ | refine AC_exit ?_ | refine AC_ret ?_ | refine WL_m rfl (m_idxN hty rfl rfl rfl (by assumption) rfl) ?_ | refine ends_bool rfl ?_ | refine WL_cmp rfl rfl rfl rfl (fun _ => ?_) (fun _ => ?_) | refine AC_cond rfl (fun _ => ?_) (fun _ => ?_))
      have hnx : rsT (termsS (b.sorts.take i)) ++ [cT a.decT] ++ rsT (termsA a.idx) = rsT (termsS (b.sorts.take (i + 1))) := by
        rw [termsS_next ha, rsT_append]
        simp only [tmsS, rsT, rT_eq, rsT_append, List.append_assoc, List.cons_append, List.nil_append]
      refine ⟨hlt, trivial, (less_ren [(103, 302)] rfl ⟨⟨_, rfl, .inl ⟨.refl _, rfl⟩⟩, ⟨_, rfl, .inl ⟨wk_gr rfl ?_, keep_gr rfl⟩⟩, ⟨_, rfl, .inl ⟨.refl _, rfl⟩⟩, ⟨_, rfl, .inl ⟨.refl _, rfl⟩⟩, ⟨_, rfl, see_eq ?_ rfl⟩, trivial⟩ ⟨⟨⟨_, rfl, .refl _⟩, rfl⟩, ⟨⟨_, rfl, wkB_gr ?_⟩, keepB_gr⟩, trivial⟩)⟩
      · exact hnx
      · exact congrArg (AV.int .i64) ((wrap_ok (by omega) (by omega)).trans (by omega))
      · exact hnx
    · obtain rfl : i = b.sorts.length := by rw [rsS_length] at hc; omega
      repeat' (first | refine WL_p hty rfl rfl ?_ | refine WL_nil ?_ | refine AC_seq ?_ | refine AC_region ?_ | refine AC_block ?_ | refine AC_skip ?_ | refine AC_condT rfl ?_ | refine AC_condF rfl ?_ | refine AC_exit ?_ | refine AC_ret ?_ | refine WL_m rfl (m_idxN hty rfl rfl rfl (by assumption) rfl) ?_ | refine ends_bool rfl ?_ | refine WL_cmp rfl rfl rfl rfl (fun _ => ?_) (fun _ => ?_) | refine AC_cond rfl (fun _ => ?_) (fun _ => ?_))
      refine AC_for b.cons.length (fun _ => True) (fun i => ⟨envOf [(3, grV 103 3 (rsT (termsS b.sorts ++ termsC (b.cons.take i)))), (29, sC b.cons), (30, .int .i64 ((rsC b.cons).length : Nat)), (31, .int .i64 (i : Nat))], bkOf [(103, grB 25 3 (rsT (termsS b.sorts ++ termsC (b.cons.take i))))]⟩)
        (less_sub ⟨⟨_, rfl, .inl ⟨.of_eq (congrArg (grV _ _) ?_), keep_gr rfl⟩⟩, ⟨_, rfl, .inl ⟨.refl _, rfl⟩⟩, ⟨_, rfl, .inl ⟨.refl _, rfl⟩⟩, ⟨_, rfl, .inl ⟨.refl _, rfl⟩⟩, trivial⟩ ⟨⟨⟨_, rfl, .of_eq (congrArg (grB _ _) ?_)⟩, keepB_gr⟩, trivial⟩) trivial ?_
      · rw [List.take_length]; exact congrArg rsT (List.append_nil _).symm
      · rw [List.take_length]; exact congrArg rsT (List.append_nil _).symm
      intro i hi _
      repeat' (first | refine WL_p hty rfl rfl ?_ | refine WL_nil ?_ | refine AC_seq ?_ | refine AC_region ?_ | refine AC_block ?_ | refine AC_skip ?_ | refine AC_condT rfl ?_ | refine AC_condF rfl ?_ | refine AC_exit ?_ | refine AC_ret ?_ | refine WL_m rfl (m_idxN hty rfl rfl rfl (by assumption) rfl) ?_ | refine ends_bool rfl ?_)
      refine WL_cmp rfl rfl rfl rfl (fun hc => ?_) (fun hc => ?_)
      · have hlt : i < b.cons.length := by rw [rsC_length] at hc; omega
        obtain ⟨a, ha, hmem⟩ := get_of_lt hlt
        have ra := rsC_get ha
        have has := size_le_sizesC hmem
        unfold Cn.size at has
        have ht := termsOf_spec a.args (by omega)
        have hx := len_le_sizes (termsA a.args)
        have hx2 := termsA_size a.args
        have hx3 := len_le_sizes a.idx
        have ht0 := len_le_sizes (termsS b.sorts)
        have ht1 := termsC_take b.cons i
        have ht3 := len_le_sizes (termsC (b.cons.take i))
        repeat' (first | refine AC_drawnE (id := 10) tbNames2140_10 rfl (by kernel_rfl) ?_ | refine WE_cons (.inl ⟨rfl, m_call 0 rfl ht rfl rfl rfl⟩) ?_ | refine WE_cons (.inl ⟨rfl, m_appG hty 301 rfl rfl rfl rfl rfl rfl rfl (by simp only [rsT_length, List.length_append, List.length_cons, List.length_nil]; omega) rfl rfl rfl⟩) ?_ | refine WE_cons (.inl ⟨rfl, m_appG hty 302 rfl rfl rfl rfl rfl rfl rfl (by simp only [rsT_length, List.length_append, List.length_cons, List.length_nil]; omega) rfl rfl rfl⟩) ?_ | refine WE_cons (.inl ⟨rfl, m_appG hty 303 rfl rfl rfl rfl rfl rfl rfl (by simp only [rsT_length, List.length_append, List.length_cons, List.length_nil]; omega) rfl rfl rfl⟩) ?_ | refine WE_cons (.inl ⟨rfl, stepE_ok hty rfl rfl⟩) ?_ | refine WE_nil ⟨by kernel_rfl, ?_⟩ | refine WL_p hty rfl rfl ?_ | refine WL_nil ?_ | refine AC_seq ?_ | refine AC_region ?_ | refine AC_block ?_ | refine AC_skip ?_ | refine AC_condT rfl ?_ | refine AC_condF rfl ?_ | refine AC_exit ?_ | refine AC_ret ?_ | refine WL_m rfl (m_idxN hty rfl rfl rfl (by assumption) rfl) ?_ | refine ends_bool rfl ?_ | refine WL_cmp rfl rfl rfl rfl (fun _ => ?_) (fun _ => ?_) | refine AC_cond rfl (fun _ => ?_) (fun _ => ?_))
        have hnx : rsT (termsS b.sorts ++ termsC (b.cons.take i)) ++ [cT a.dec] ++ rsT a.idx ++ rsT (termsA a.args) = rsT (termsS b.sorts ++ termsC (b.cons.take (i + 1))) := by
          rw [termsC_next ha, rsT_append, rsT_append, rsT_append]
          simp only [tmsC, rsT, rT_eq, rsT_append, List.append_assoc, List.cons_append, List.nil_append]
        refine ⟨hlt, trivial, (less_ren [(103, 303)] rfl ⟨⟨_, rfl, .inl ⟨wk_gr rfl ?_, keep_gr rfl⟩⟩, ⟨_, rfl, .inl ⟨.refl _, rfl⟩⟩, ⟨_, rfl, .inl ⟨.refl _, rfl⟩⟩, ⟨_, rfl, see_eq ?_ rfl⟩, trivial⟩ ⟨⟨⟨_, rfl, wkB_gr ?_⟩, keepB_gr⟩, trivial⟩)⟩
        · exact hnx
        · exact congrArg (AV.int .i64) ((wrap_ok (by omega) (by omega)).trans (by omega))
        · exact hnx
      · obtain rfl : i = b.cons.length := by rw [rsC_length] at hc; omega
        have htb : termsS b.sorts ++ termsC (b.cons.take b.cons.length) = termsB b := by rw [List.take_length]; rfl
        have hts : sizes (termsB b) ≤ 1048576 := by unfold termsB; rw [sizes_append]; omega
        have htl := len_le_sizes (termsB b)
        rw [htb]
        repeat' (first | refine WL_less (less_gr 3 103 rfl rfl) ?_ | refine WL_p hty rfl rfl ?_ | refine WL_nil ?_ | refine AC_seq ?_ | refine AC_region ?_ | refine AC_block ?_ | refine AC_skip ?_ | refine AC_condT rfl ?_ | refine AC_condF rfl ?_ | refine AC_exit ?_ | refine AC_ret ?_ | refine WL_m rfl (m_idxN hty rfl rfl rfl (by assumption) rfl) ?_ | refine ends_bool rfl ?_ | refine WL_cmp rfl rfl rfl rfl (fun _ => ?_) (fun _ => ?_) | refine AC_cond rfl (fun _ => ?_) (fun _ => ?_))
        refine AC_for (termsB b).length (fun _ => True) (fun i => ⟨envOf [(8, .int .i64 (mostTs ((termsB b).take i) (-1))), (48, sT (termsB b)), (49, .int .i64 ((rsT (termsB b)).length : Nat)), (50, .int .i64 (i : Nat))], bkOf []⟩)
          (less_sub ⟨⟨_, rfl, .inl ⟨.refl _, rfl⟩⟩, ⟨_, rfl, .inl ⟨.refl _, rfl⟩⟩, ⟨_, rfl, .inl ⟨.refl _, rfl⟩⟩, ⟨_, rfl, .inl ⟨.refl _, rfl⟩⟩, trivial⟩ trivial) trivial ?_
        intro i hi _
        repeat' (first | refine WL_p hty rfl rfl ?_ | refine WL_nil ?_ | refine AC_seq ?_ | refine AC_region ?_ | refine AC_block ?_ | refine AC_skip ?_ | refine AC_condT rfl ?_ | refine AC_condF rfl ?_ | refine AC_exit ?_ | refine AC_ret ?_ | refine WL_m rfl (m_idxN hty rfl rfl rfl (by assumption) rfl) ?_ | refine ends_bool rfl ?_)
        refine WL_cmp rfl rfl rfl rfl (fun hc => ?_) (fun hc => ?_)
        · have hlt : i < (termsB b).length := by rw [rsT_length] at hc; omega
          obtain ⟨t, ht, hmem⟩ := get_of_lt hlt
          have rt := rsT_get ht
          have hts2 := size_le_sizes hmem
          have hcn := tConsts_spec t (by omega) (hok t hmem)
          have hnx : mostTs ((termsB b).take (i + 1)) (-1) = gI (mostTs ((termsB b).take i) (-1)) (mostT t (-1)) := by
            rw [List.take_add_one, ht, Option.toList_some, mostTs_append]
            show mostT t _ = _
            rw [← mostT_g]
            congr 1
            have := mostTs_ge ((termsB b).take i) (-1)
            unfold gI; rw [if_neg (by omega)]
          repeat' (first | refine WL_callR 70 rfl hcn rfl (fun res hR => ?_) | refine WL_p hty rfl rfl ?_ | refine WL_nil ?_ | refine AC_seq ?_ | refine AC_region ?_ | refine AC_block ?_ | refine AC_skip ?_ | refine AC_condT rfl ?_ | refine AC_condF rfl ?_ | refine AC_exit ?_ | refine AC_ret ?_ | refine WL_m rfl (m_idxN hty rfl rfl rfl (by assumption) rfl) ?_ | refine ends_bool rfl ?_ | refine WL_cmp rfl rfl rfl rfl (fun _ => ?_) (fun _ => ?_) | refine AC_cond rfl (fun _ => ?_) (fun _ => ?_))
          obtain ⟨zs, hm, hzl, rfl⟩ := hR
          obtain ⟨x, l, hxl, hmx⟩ := grO_keys (up_conT t up_none) (mostT_ge t (-1)) hm
          have hll : l.length ≤ zs.length := by have := congrArg List.length hxl; simp at this; omega
          have hmc := slMax_spec x l (by omega)
          have e2 : rsI (x :: l) = rsI zs ++ [[.int .i64 (-1)]] := by rw [← hxl]; simp [rsI]
          rw [e2, hmx] at hmc
          have hlast : mostTs ((termsB b).take (i + 1)) (-1) = if mostT t (-1) > mostTs ((termsB b).take i) (-1) then mostT t (-1) else mostTs ((termsB b).take i) (-1) := hnx
          cases zs with
          | nil =>
            refine ⟨(.lst 1 [] true, []), rfl, rfl, ?_⟩
            repeat' (first | refine WL_m rfl (m_appF hty 301 rfl rfl rfl rfl rfl rfl rfl (List.cons_ne_nil _ _) (Nat.le_of_ble_eq_true rfl) rfl rfl rfl) ?_ | refine WL_less (less_freeze 301 rfl) (WL_call 0 rfl hmc rfl rfl rfl ?_) | refine WL_m rfl (m_max rfl rfl rfl) ?_ | refine WL_p hty rfl rfl ?_ | refine WL_nil ?_ | refine AC_seq ?_ | refine AC_region ?_ | refine AC_block ?_ | refine AC_skip ?_ | refine AC_condT rfl ?_ | refine AC_condF rfl ?_ | refine AC_exit ?_ | refine AC_ret ?_ | refine WL_m rfl (m_idxN hty rfl rfl rfl (by assumption) rfl) ?_ | refine ends_bool rfl ?_ | refine WL_cmp rfl rfl rfl rfl (fun _ => ?_) (fun _ => ?_) | refine AC_cond rfl (fun _ => ?_) (fun _ => ?_))
            refine ⟨hlt, trivial, (less_sub ⟨⟨_, rfl, see_eq ?_ rfl⟩, ⟨_, rfl, .inl ⟨.refl _, rfl⟩⟩, ⟨_, rfl, .inl ⟨.refl _, rfl⟩⟩, ⟨_, rfl, see_eq ?_ rfl⟩, trivial⟩ trivial)⟩
            · rw [hlast]
            · exact congrArg (AV.int .i64) ((wrap_ok (by omega) (by omega)).trans (by omega))
          | cons y r =>
            refine ⟨(.arr 70, [(70, .arr 3 1 (rsI (y :: r)) true)]), rfl, rfl, ?_⟩
            repeat' (first | refine WL_m rfl (m_appW hty 301 rfl rfl rfl rfl rfl rfl rfl rfl (List.cons_ne_nil _ _) (by rw [rsI_length]; show _ + 1 ≤ _; omega) rfl rfl rfl) ?_ | refine WL_less (less_freeze 301 rfl) (WL_call 0 rfl hmc rfl rfl rfl ?_) | refine WL_m rfl (m_max rfl rfl rfl) ?_ | refine WL_p hty rfl rfl ?_ | refine WL_nil ?_ | refine AC_seq ?_ | refine AC_region ?_ | refine AC_block ?_ | refine AC_skip ?_ | refine AC_condT rfl ?_ | refine AC_condF rfl ?_ | refine AC_exit ?_ | refine AC_ret ?_ | refine WL_m rfl (m_idxN hty rfl rfl rfl (by assumption) rfl) ?_ | refine ends_bool rfl ?_ | refine WL_cmp rfl rfl rfl rfl (fun _ => ?_) (fun _ => ?_) | refine AC_cond rfl (fun _ => ?_) (fun _ => ?_))
            refine ⟨hlt, trivial, (less_sub ⟨⟨_, rfl, see_eq ?_ rfl⟩, ⟨_, rfl, .inl ⟨.refl _, rfl⟩⟩, ⟨_, rfl, .inl ⟨.refl _, rfl⟩⟩, ⟨_, rfl, see_eq ?_ rfl⟩, trivial⟩ trivial)⟩
            · rw [hlast]
            · exact congrArg (AV.int .i64) ((wrap_ok (by omega) (by omega)).trans (by omega))
        · obtain rfl : i = (termsB b).length := by rw [rsT_length] at hc; omega
          repeat' (first | refine WL_p hty rfl rfl ?_ | refine WL_nil ?_ | refine AC_seq ?_ | refine AC_region ?_ | refine AC_block ?_ | refine AC_skip ?_ | refine AC_condT rfl ?_ | refine AC_condF rfl ?_ | refine AC_exit ?_ | refine AC_ret ?_ | refine WL_m rfl (m_idxN hty rfl rfl rfl (by assumption) rfl) ?_ | refine ends_bool rfl ?_ | refine WL_cmp rfl rfl rfl rfl (fun _ => ?_) (fun _ => ?_) | refine AC_cond rfl (fun _ => ?_) (fun _ => ?_))
          refine ends_int rfl ?_
          rw [List.take_length]; rfl

end Go.Proofs.YtoknnfhgoikpiaaGreat

/-
  The constants of a block: how many, which.
-/
namespace Go.Proofs.YtoknnfhgoikpiaaGreat
set_option linter.unusedSimpArgs false
set_option linter.unusedVariables false
open Go.Aw Go.RowKit
def tbShapeN141_1 : List (Nat × List Nat) := [(0, []), (1, [0]), (2, [0, 1]), (3, [0, 1, 2]), (4, []), (5, []), (6, [5]), (7, [5, 6]), (8, [4, 5, 6, 7]), (9, [0, 1, 2, 3, 4, 5, 6, 7, 8]), (10, []), (11, [10]), (12, [10, 11]), (13, [0, 1, 2, 3, 4, 5, 6, 7, 8, 9, 10, 11, 12]), (14, [0, 1, 2, 3, 4, 5, 6, 7, 8, 9, 10, 11, 12, 13])]
def tbShapeN188_1 : List (Nat × List Nat) := [(0, []), (1, []), (2, [1]), (3, [1, 2]), (4, []), (5, []), (6, [5]), (7, [5, 6]), (8, [4, 5, 6, 7]), (9, [1, 2, 3, 4, 5, 6, 7, 8]), (10, []), (11, []), (12, [11]), (13, [11, 12]), (14, [0, 1, 2, 3, 4, 5, 6, 7, 8, 9, 10, 11, 12, 13]), (15, [0, 1, 2, 3, 4, 5, 6, 7, 8, 9, 10, 11, 12, 13, 14])]
def tbShapeN189_1 : List (Nat × List Nat) := [(0, []), (1, []), (2, [1]), (3, [1, 2]), (4, []), (5, []), (6, [5]), (7, [5, 6]), (8, [4, 5, 6, 7]), (9, [1, 2, 3, 4, 5, 6, 7, 8]), (10, []), (11, [10]), (12, [10, 11]), (13, [1, 2, 3, 4, 5, 6, 7, 8, 9, 10, 11, 12]), (14, []), (15, []), (16, [15]), (17, [15, 16]), (18, [0, 1, 2, 3, 4, 5, 6, 7, 8, 9, 10, 11, 12, 13, 14, 15, 16, 17]), (19, [0, 1, 2, 3, 4, 5, 6, 7, 8, 9, 10, 11, 12, 13, 14, 15, 16, 17, 18])]
def tbShapeN187_3 : List (Nat × List Nat) := [(0, []), (1, []), (2, [1]), (3, [1, 2]), (4, []), (5, []), (6, [4, 5]), (7, []), (8, [7]), (9, [7, 8]), (10, [0, 1, 2, 3, 4, 5, 6, 7, 8, 9]), (11, [0, 1, 2, 3, 4, 5, 6, 7, 8, 9, 10])]
attribute [local irreducible] WL AC WD WE MStep OkOp

/-- How many of the first sorts have decoders. -/
def decsN (l : List Sr) : Nat := l.countP (·.dec)
def countN (b : Bl) : Nat := 2 * b.sorts.length + decsN b.sorts + b.cons.length
def placeI (base ahead k many : Int) : Int := if base < 0 then -1 else if 65535 < base then -1 else if k < 0 then -1 else if many ≤ k then -1 else base + ahead + k
def formerI (b : Bl) (base k : Int) : Int := placeI base 0 k b.sorts.length
def decoderI (b : Bl) (base k : Int) : Int := if k < 0 then -1 else if (b.sorts.length : Int) ≤ k then -1 else if decS b k = true then placeI base b.sorts.length (decsN (b.sorts.take k.toNat)) b.sorts.length else -1
def constructorI (b : Bl) (base k : Int) : Int := placeI base (b.sorts.length + decsN b.sorts) k b.cons.length
def eliminatorI (b : Bl) (base k : Int) : Int := placeI base (b.sorts.length + decsN b.sorts + b.cons.length) k b.sorts.length

theorem decsN_le (l : List Sr) : decsN l ≤ l.length := List.countP_le_length
theorem decsN_take_succ {l : List Sr} {j : Nat} {s : Sr} (h : l[j]? = some s) : decsN (l.take (j + 1)) = decsN (l.take j) + (if s.dec = true then 1 else 0) := by
  unfold decsN
  rw [List.take_add_one, h, Option.toList_some, List.countP_append]
  simp [List.countP_cons]

theorem place_spec (base ahead k many : Int) (h1 : 0 ≤ ahead ∧ ahead ≤ 4194304) (h2 : many ≤ 4194304) : FC Tryz.prog 233 [.int .i64 base, .int .i64 ahead, .int .i64 k, .int .i64 many] (.int .i64 (placeI base ahead k many)) := by
  refine FC_intro hty Tryz.func233 rfl rfl rfl fun w0 => ?_
  repeat' (first | refine WL_p hty rfl rfl ?_ | refine WL_nil ?_ | refine AC_seq ?_ | refine AC_region ?_ | refine AC_skip ?_ | refine AC_condT rfl ?_ | refine AC_condF rfl ?_ | refine AC_ret ?_ | refine WL_ung rfl rfl ?_ | refine WL_offT rfl rfl rfl ?_ | refine WL_offF rfl rfl rfl ?_ | refine WL_offU rfl rfl rfl ?_ | refine ends_bool rfl ?_ | refine WL_cmp rfl rfl rfl rfl (fun _ => ?_) (fun _ => ?_) | refine AC_cond rfl (fun _ => ?_) (fun _ => ?_))
  all_goals refine ends_int rfl ?_
  all_goals unfold placeI
  all_goals first
    | (rw [if_pos (by assumption)]; done)
    | (rw [if_neg (by assumption), if_pos (by assumption)]; done)
    | (rw [if_neg (by assumption), if_neg (by assumption), if_pos (by assumption)]; done)
    | (rw [if_neg (by assumption), if_neg (by assumption), if_neg (by assumption), if_pos (by assumption)]; done)
    | (rw [if_neg (by assumption), if_neg (by assumption), if_neg (by assumption), if_neg (by assumption)]
       rw [wrap_ok (n := base + ahead) (by omega) (by omega)]
       exact wrap_ok (by omega) (by omega))

theorem decs_spec (b : Bl) (k : Nat) (hb : b.size ≤ 1048576) (hk : k ≤ b.sorts.length) : FC Tryz.prog 199 [aB b, .int .i64 (k : Nat)] (.int .i64 (decsN (b.sorts.take k) : Nat)) := by
  unfold Bl.size at hb
  have hsl := len_le_sizesS b.sorts
  have hrl : ((rsS b.sorts).take k).drop 0 = rsS (b.sorts.take k) := by rw [List.drop_zero, rsS_map, rsS_map, List.map_take]
  have htl : (b.sorts.take k).length = k := by rw [List.length_take]; omega
  refine FC_intro hty Tryz.func199 rfl rfl rfl fun w0 => ?_
  repeat' (first | refine WL_m rfl (m_sliceL hty 0 k rfl rfl rfl ⟨_, _, rfl, rfl⟩ (Nat.zero_le _) (by rw [rsS_length]; exact hk) rfl) ?_ | refine WL_p hty rfl rfl ?_ | refine WL_nil ?_ | refine AC_seq ?_ | refine AC_region ?_ | refine AC_block ?_ | refine AC_skip ?_ | refine AC_condT rfl ?_ | refine AC_condF rfl ?_ | refine AC_exit ?_ | refine AC_ret ?_ | refine WL_m rfl (m_idxN hty rfl rfl rfl (by assumption) rfl) ?_ | refine ends_bool rfl ?_ | refine WL_cmp rfl rfl rfl rfl (fun _ => ?_) (fun _ => ?_) | refine AC_cond rfl (fun _ => ?_) (fun _ => ?_))
  refine AC_for k (fun _ => True) (fun j => ⟨envOf [(5, .int .i64 (decsN (b.sorts.take j) : Nat)), (11, .lst 6 (rsS (b.sorts.take k)) false), (12, .int .i64 (k : Nat)), (13, .int .i64 (j : Nat))], bkOf []⟩)
    (less_sub ⟨⟨_, rfl, .inl ⟨.refl _, rfl⟩⟩, ⟨_, rfl, see_eq ?_ rfl⟩, ⟨_, rfl, see_eq ?_ rfl⟩, ⟨_, rfl, .inl ⟨.refl _, rfl⟩⟩, trivial⟩ trivial) trivial ?_
  · rw [hrl]; rfl
  · rw [hrl, rsS_length, htl]
  intro j hj _
  repeat' (first | refine WL_p hty rfl rfl ?_ | refine WL_nil ?_ | refine AC_seq ?_ | refine AC_region ?_ | refine AC_block ?_ | refine AC_skip ?_ | refine AC_condT rfl ?_ | refine AC_condF rfl ?_ | refine AC_exit ?_ | refine AC_ret ?_ | refine WL_m rfl (m_idxN hty rfl rfl rfl (by assumption) rfl) ?_ | refine ends_bool rfl ?_)
  refine WL_cmp rfl rfl rfl rfl (fun hc => ?_) (fun hc => ?_)
  · have hlt : j < k := by omega
    obtain ⟨s, hs, hmem⟩ := get_of_lt (show j < b.sorts.length by omega)
    have hs' : (b.sorts.take k)[j]? = some s := by rw [List.getElem?_take, if_pos hlt]; exact hs
    have rs := rsS_get hs'
    have hle := decsN_le (b.sorts.take j)
    have hjl : (b.sorts.take j).length = j := by rw [List.length_take]; omega
    have hts := decsN_take_succ hs
    obtain ⟨sx, sl, sd, st⟩ := s
    cases sd
    · repeat' (first | refine WL_p hty rfl rfl ?_ | refine WL_nil ?_ | refine AC_seq ?_ | refine AC_region ?_ | refine AC_block ?_ | refine AC_skip ?_ | refine AC_condT rfl ?_ | refine AC_condF rfl ?_ | refine AC_exit ?_ | refine AC_ret ?_ | refine WL_m rfl (m_idxN hty rfl rfl rfl (by assumption) rfl) ?_ | refine ends_bool rfl ?_ | refine WL_cmp rfl rfl rfl rfl (fun _ => ?_) (fun _ => ?_) | refine AC_cond rfl (fun _ => ?_) (fun _ => ?_))
      refine ⟨hlt, trivial, (less_sub ⟨⟨_, rfl, see_eq ?_ rfl⟩, ⟨_, rfl, .inl ⟨.refl _, rfl⟩⟩, ⟨_, rfl, .inl ⟨.refl _, rfl⟩⟩, ⟨_, rfl, see_eq ?_ rfl⟩, trivial⟩ trivial)⟩
      · rw [hts]; rfl
      · exact congrArg (AV.int .i64) ((wrap_ok (by omega) (by omega)).trans (by omega))
    · repeat' (first | refine WL_p hty rfl rfl ?_ | refine WL_nil ?_ | refine AC_seq ?_ | refine AC_region ?_ | refine AC_block ?_ | refine AC_skip ?_ | refine AC_condT rfl ?_ | refine AC_condF rfl ?_ | refine AC_exit ?_ | refine AC_ret ?_ | refine WL_m rfl (m_idxN hty rfl rfl rfl (by assumption) rfl) ?_ | refine ends_bool rfl ?_ | refine WL_cmp rfl rfl rfl rfl (fun _ => ?_) (fun _ => ?_) | refine AC_cond rfl (fun _ => ?_) (fun _ => ?_))
      refine ⟨hlt, trivial, (less_sub ⟨⟨_, rfl, see_eq ?_ rfl⟩, ⟨_, rfl, .inl ⟨.refl _, rfl⟩⟩, ⟨_, rfl, .inl ⟨.refl _, rfl⟩⟩, ⟨_, rfl, see_eq ?_ rfl⟩, trivial⟩ trivial)⟩
      · rw [hts]
        exact congrArg (AV.int .i64) ((wrap_ok (by omega) (by omega)).trans (by simp))
      · exact congrArg (AV.int .i64) ((wrap_ok (by omega) (by omega)).trans (by omega))
  · obtain rfl : j = k := by omega
    repeat' (first | refine WL_p hty rfl rfl ?_ | refine WL_nil ?_ | refine AC_seq ?_ | refine AC_region ?_ | refine AC_block ?_ | refine AC_skip ?_ | refine AC_condT rfl ?_ | refine AC_condF rfl ?_ | refine AC_exit ?_ | refine AC_ret ?_ | refine WL_m rfl (m_idxN hty rfl rfl rfl (by assumption) rfl) ?_ | refine ends_bool rfl ?_ | refine WL_cmp rfl rfl rfl rfl (fun _ => ?_) (fun _ => ?_) | refine AC_cond rfl (fun _ => ?_) (fun _ => ?_))
    exact ends_int rfl rfl

theorem count_spec (b : Bl) (hb : b.size ≤ 1048576) : FC Tryz.prog 141 [aB b] (.int .i64 (countN b : Nat)) := by
  have hb' := hb
  unfold Bl.size at hb'
  have hsl := len_le_sizesS b.sorts
  have hcl := len_le_sizesC b.cons
  have hdl := decsN_le b.sorts
  have hd := decs_spec b b.sorts.length hb (Nat.le_refl _)
  rw [List.take_length, ← rsS_length b.sorts] at hd
  refine FC_intro hty Tryz.func141 rfl rfl rfl fun w0 => ?_
  repeat' (first | refine AC_drawnE (id := 1) tbShapeN141_1 rfl (by kernel_rfl) ?_ | refine WE_cons (.inl ⟨rfl, m_call 0 rfl hd rfl rfl rfl⟩) ?_ | refine WE_cons (.inl ⟨rfl, stepE_ok hty rfl rfl⟩) ?_ | refine WE_nil ⟨by kernel_rfl, ?_⟩ | refine WL_p hty rfl rfl ?_ | refine WL_nil ?_ | refine AC_seq ?_ | refine AC_region ?_ | refine AC_skip ?_ | refine AC_ret ?_ | refine ends_bool rfl ?_)
  refine ends_int rfl ?_
  rw [rsS_length, rsC_length]
  unfold countN
  rw [wrap_ok (n := 2 * (b.sorts.length : Int)) (by omega) (by omega), wrap_ok (n := 2 * (b.sorts.length : Int) + (decsN b.sorts : Int)) (by omega) (by omega)]
  exact (wrap_ok (by omega) (by omega)).trans (by omega)

theorem former_spec (b : Bl) (base k : Int) (hb : b.size ≤ 1048576) : FC Tryz.prog 186 [aB b, .int .i64 base, .int .i64 k] (.int .i64 (formerI b base k)) := by
  unfold Bl.size at hb
  have hsl := len_le_sizesS b.sorts
  have hp := place_spec base 0 k ((rsS b.sorts).length : Nat) (by omega) (by rw [rsS_length]; omega)
  refine FC_intro hty Tryz.func186 rfl rfl rfl fun w0 => ?_
  repeat' (first | refine WL_call 0 rfl hp rfl rfl rfl ?_ | refine WL_p hty rfl rfl ?_ | refine WL_nil ?_ | refine AC_seq ?_ | refine AC_region ?_ | refine AC_skip ?_ | refine AC_ret ?_ | refine ends_bool rfl ?_)
  refine ends_int rfl ?_
  rw [rsS_length]; rfl

theorem constructor_spec (b : Bl) (base k : Int) (hb : b.size ≤ 1048576) : FC Tryz.prog 188 [aB b, .int .i64 base, .int .i64 k] (.int .i64 (constructorI b base k)) := by
  have hb' := hb
  unfold Bl.size at hb'
  have hsl := len_le_sizesS b.sorts
  have hcl := len_le_sizesC b.cons
  have hdl := decsN_le b.sorts
  have hd := decs_spec b b.sorts.length hb (Nat.le_refl _)
  rw [List.take_length, ← rsS_length b.sorts] at hd
  have w1 : IntKind.i64.wrap (((rsS b.sorts).length : Int) + (decsN b.sorts : Nat)) = (b.sorts.length : Int) + (decsN b.sorts : Nat) := by rw [rsS_length]; exact wrap_ok (by omega) (by omega)
  have hp := place_spec base (IntKind.i64.wrap (((rsS b.sorts).length : Int) + (decsN b.sorts : Nat))) k ((rsC b.cons).length : Nat) (by rw [w1]; omega) (by rw [rsC_length]; omega)
  refine FC_intro hty Tryz.func188 rfl rfl rfl fun w0 => ?_
  repeat' (first | refine AC_drawnE (id := 1) tbShapeN188_1 rfl (by kernel_rfl) ?_ | refine WE_cons (.inl ⟨rfl, m_call 0 rfl hd rfl rfl rfl⟩) ?_ | refine WE_cons (.inl ⟨rfl, m_call 0 rfl hp rfl rfl rfl⟩) ?_ | refine WE_cons (.inl ⟨rfl, stepE_ok hty rfl rfl⟩) ?_ | refine WE_nil ⟨by kernel_rfl, ?_⟩ | refine WL_p hty rfl rfl ?_ | refine WL_nil ?_ | refine AC_seq ?_ | refine AC_region ?_ | refine AC_skip ?_ | refine AC_ret ?_ | refine ends_bool rfl ?_)
  refine ends_int rfl ?_
  rw [w1, rsC_length]; rfl

theorem eliminator_spec (b : Bl) (base k : Int) (hb : b.size ≤ 1048576) : FC Tryz.prog 189 [aB b, .int .i64 base, .int .i64 k] (.int .i64 (eliminatorI b base k)) := by
  have hb' := hb
  unfold Bl.size at hb'
  have hsl := len_le_sizesS b.sorts
  have hcl := len_le_sizesC b.cons
  have hdl := decsN_le b.sorts
  have hd := decs_spec b b.sorts.length hb (Nat.le_refl _)
  rw [List.take_length, ← rsS_length b.sorts] at hd
  have w1 : IntKind.i64.wrap (((rsS b.sorts).length : Int) + (decsN b.sorts : Nat)) = (b.sorts.length : Int) + (decsN b.sorts : Nat) := by rw [rsS_length]; exact wrap_ok (by omega) (by omega)
  have w2 : IntKind.i64.wrap (IntKind.i64.wrap (((rsS b.sorts).length : Int) + (decsN b.sorts : Nat)) + ((rsC b.cons).length : Nat)) = (b.sorts.length : Int) + (decsN b.sorts : Nat) + b.cons.length := by rw [w1, rsC_length]; exact wrap_ok (by omega) (by omega)
  have hp := place_spec base (IntKind.i64.wrap (IntKind.i64.wrap (((rsS b.sorts).length : Int) + (decsN b.sorts : Nat)) + ((rsC b.cons).length : Nat))) k ((rsS b.sorts).length : Nat) (by rw [w2]; omega) (by rw [rsS_length]; omega)
  refine FC_intro hty Tryz.func189 rfl rfl rfl fun w0 => ?_
  repeat' (first | refine AC_drawnE (id := 1) tbShapeN189_1 rfl (by kernel_rfl) ?_ | refine WE_cons (.inl ⟨rfl, m_call 0 rfl hd rfl rfl rfl⟩) ?_ | refine WE_cons (.inl ⟨rfl, m_call 0 rfl hp rfl rfl rfl⟩) ?_ | refine WE_cons (.inl ⟨rfl, stepE_ok hty rfl rfl⟩) ?_ | refine WE_nil ⟨by kernel_rfl, ?_⟩ | refine WL_p hty rfl rfl ?_ | refine WL_nil ?_ | refine AC_seq ?_ | refine AC_region ?_ | refine AC_skip ?_ | refine AC_ret ?_ | refine ends_bool rfl ?_)
  refine ends_int rfl ?_
  rw [w2, rsS_length]; rfl

theorem decoder_spec (b : Bl) (base k : Int) (hb : b.size ≤ 1048576) : FC Tryz.prog 187 [aB b, .int .i64 base, .int .i64 k] (.int .i64 (decoderI b base k)) := by
  have hb' := hb
  unfold Bl.size at hb'
  have hsl := len_le_sizesS b.sorts
  by_cases h0 : 0 ≤ k ∧ k.toNat < b.sorts.length
  · obtain ⟨s, hs, _⟩ := get_of_lt h0.2
    have rs := rsS_get hs
    have hd := decs_spec b k.toNat hb (by omega)
    have hkk : ((k.toNat : Nat) : Int) = k := by omega
    rw [hkk] at hd
    have hdl := decsN_le (b.sorts.take k.toNat)
    have htl : (b.sorts.take k.toNat).length ≤ b.sorts.length := by rw [List.length_take]; omega
    have hp := place_spec base ((rsS b.sorts).length : Nat) (decsN (b.sorts.take k.toNat) : Nat) ((rsS b.sorts).length : Nat) (by rw [rsS_length]; omega) (by rw [rsS_length]; omega)
    have hn1 : ¬ k < 0 := by omega
    have hn2 : ¬ ((rsS b.sorts).length : Int) ≤ k := by rw [rsS_length]; omega
    have hde : decS b k = s.dec := by unfold decS; rw [hs]
    have hdi : decoderI b base k = if s.dec = true then placeI base b.sorts.length (decsN (b.sorts.take k.toNat)) b.sorts.length else -1 := by
      unfold decoderI; rw [if_neg hn1, if_neg (by rw [← rsS_length]; exact hn2), hde]
    obtain ⟨sx, sl, sd, st⟩ := s
    cases sd
    · refine FC_intro hty Tryz.func187 rfl rfl rfl fun w0 => ?_
      repeat' (first | exact absurd (by assumption) hn1 | exact absurd (by assumption) hn2 | refine WL_m rfl (m_idxL hty rfl rfl rfl h0.1 rs rfl) ?_ | refine WL_p hty rfl rfl ?_ | refine WL_nil ?_ | refine AC_seq ?_ | refine AC_region ?_ | refine AC_skip ?_ | refine AC_condT rfl ?_ | refine AC_condF rfl ?_ | refine AC_ret ?_ | refine WL_ung rfl rfl ?_ | refine WL_offT rfl rfl rfl ?_ | refine WL_offF rfl rfl rfl ?_ | refine WL_offU rfl rfl rfl ?_ | refine WL_m rfl (m_idxN hty rfl rfl rfl (by assumption) rfl) ?_ | refine ends_bool rfl ?_ | refine WL_cmp rfl rfl rfl rfl (fun _ => ?_) (fun _ => ?_) | refine AC_cond rfl (fun _ => ?_) (fun _ => ?_))
      exact ends_int rfl hdi.symm
    · refine FC_intro hty Tryz.func187 rfl rfl rfl fun w0 => ?_
      repeat' (first | exact absurd (by assumption) hn1 | exact absurd (by assumption) hn2 | refine WL_m rfl (m_idxL hty rfl rfl rfl h0.1 rs rfl) ?_ | refine AC_drawnE (id := 3) tbShapeN187_3 rfl (by kernel_rfl) ?_ | refine WE_cons (.inl ⟨rfl, m_call 0 rfl hd rfl rfl rfl⟩) ?_ | refine WE_cons (.inl ⟨rfl, m_call 0 rfl hp rfl rfl rfl⟩) ?_ | refine WE_cons (.inl ⟨rfl, stepE_ok hty rfl rfl⟩) ?_ | refine WE_nil ⟨by kernel_rfl, ?_⟩ | refine WL_p hty rfl rfl ?_ | refine WL_nil ?_ | refine AC_seq ?_ | refine AC_region ?_ | refine AC_skip ?_ | refine AC_condT rfl ?_ | refine AC_condF rfl ?_ | refine AC_ret ?_ | refine WL_ung rfl rfl ?_ | refine WL_offT rfl rfl rfl ?_ | refine WL_offF rfl rfl rfl ?_ | refine WL_offU rfl rfl rfl ?_ | refine WL_m rfl (m_idxN hty rfl rfl rfl (by assumption) rfl) ?_ | refine ends_bool rfl ?_ | refine WL_cmp rfl rfl rfl rfl (fun _ => ?_) (fun _ => ?_) | refine AC_cond rfl (fun _ => ?_) (fun _ => ?_))
      refine ends_int rfl ?_
      rw [hdi, rsS_length]; rfl
  · have hdi : decoderI b base k = -1 := by
      unfold decoderI
      split
      · rfl
      · rw [if_pos (by omega)]
    rw [hdi]
    refine FC_intro hty Tryz.func187 rfl rfl rfl fun w0 => ?_
    repeat' (first | exact absurd (by rw [rsS_length] at *; omega) h0 | refine WL_p hty rfl rfl ?_ | refine WL_nil ?_ | refine AC_seq ?_ | refine AC_region ?_ | refine AC_skip ?_ | refine AC_condT rfl ?_ | refine AC_condF rfl ?_ | refine AC_ret ?_ | refine WL_ung rfl rfl ?_ | refine WL_offT rfl rfl rfl ?_ | refine WL_offF rfl rfl rfl ?_ | refine WL_offU rfl rfl rfl ?_ | refine WL_m rfl (m_idxN hty rfl rfl rfl (by assumption) rfl) ?_ | refine ends_bool rfl ?_ | refine WL_cmp rfl rfl rfl rfl (fun _ => ?_) (fun _ => ?_) | refine AC_cond rfl (fun _ => ?_) (fun _ => ?_))
    all_goals exact ends_int rfl rfl

end Go.Proofs.YtoknnfhgoikpiaaGreat

/-
  Which constant of a block a number is.
-/
namespace Go.Proofs.YtoknnfhgoikpiaaGreat
set_option linter.unusedSimpArgs false
set_option linter.unusedVariables false
open Go.Aw Go.RowKit
attribute [local irreducible] WL AC WD WE MStep OkOp

/-- The first kind, and the first of that kind, that has the number. -/
def ofL : List (Int × Nat × (Int → Int)) → Int → Int × Int
  | [], _ => (0, 0)
  | (k, m, f) :: l, n => if 0 ≤ idxF (fun i : Nat => decide (f i = n)) (List.range m) then (k, idxF (fun i : Nat => decide (f i = n)) (List.range m)) else ofL l n
def ofRows (b : Bl) (base : Int) : List (Int × Nat × (Int → Int)) := [(3, b.sorts.length, formerI b base), (4, b.sorts.length, decoderI b base), (5, b.cons.length, constructorI b base), (6, b.sorts.length, eliminatorI b base)]
def ofB (b : Bl) (base n : Int) : Int × Int := if base < 0 then (0, 0) else if 65535 < base then (0, 0) else if n < base then (0, 0) else if (countN b : Int) ≤ n - base then (0, 0) else ofL (ofRows b base) n

theorem range_get {m i : Nat} (h : i < m) : (List.range m)[i]? = some i := by rw [List.getElem?_range h]

def ofG : List (Nat × Int × Nat × (Int → Int)) → List (Int × Nat × (Int → Int)) := fun l => l.map (·.2)

set_option maxHeartbeats 4000000 in
theorem of4_spec (b : Bl) (base n : Int) (hb : b.size ≤ 1048576) (hn : n ≤ 4294967296) : FC Tryz.prog 236 [aB b, .int .i64 base, .int .i64 n] (.tup [.int .i64 (ofB b base n).1, .int .i64 (ofB b base n).2]) := by
  have hb' := hb
  unfold Bl.size at hb'
  have hsl := len_le_sizesS b.sorts
  have hcl := len_le_sizesC b.cons
  have hdl := decsN_le b.sorts
  have hcn := count_spec b hb
  have f3 : ∀ k, FC Tryz.prog 186 [aB b, .int .i64 base, .int .i64 k] (.int .i64 (formerI b base k)) := fun k => former_spec b base k hb
  have f4 : ∀ k, FC Tryz.prog 187 [aB b, .int .i64 base, .int .i64 k] (.int .i64 (decoderI b base k)) := fun k => decoder_spec b base k hb
  have f5 : ∀ k, FC Tryz.prog 188 [aB b, .int .i64 base, .int .i64 k] (.int .i64 (constructorI b base k)) := fun k => constructor_spec b base k hb
  have f6 : ∀ k, FC Tryz.prog 189 [aB b, .int .i64 base, .int .i64 k] (.int .i64 (eliminatorI b base k)) := fun k => eliminator_spec b base k hb
  obtain ⟨rows, hrows⟩ : ∃ rows : List (Nat × Int × Nat × (Int → Int)), rows = [(186, 3, b.sorts.length, formerI b base), (187, 4, b.sorts.length, decoderI b base), (188, 5, b.cons.length, constructorI b base), (189, 6, b.sorts.length, eliminatorI b base)] := ⟨_, rfl⟩
  have hrs : ∀ r, r ∈ rows → r.2.2.1 ≤ 1048576 ∧ ∀ k, FC Tryz.prog r.1 [aB b, .int .i64 base, .int .i64 k] (.int .i64 (r.2.2.2 k)) := by
    intro r hr
    rw [hrows] at hr
    simp only [List.mem_cons, List.not_mem_nil, or_false] at hr
    rcases hr with rfl | rfl | rfl | rfl
    · exact ⟨by show b.sorts.length ≤ _; omega, f3⟩
    · exact ⟨by show b.sorts.length ≤ _; omega, f4⟩
    · exact ⟨by show b.cons.length ≤ _; omega, f5⟩
    · exact ⟨by show b.sorts.length ≤ _; omega, f6⟩
  have hof : ofRows b base = rows.map (·.2) := by rw [hrows]; rfl
  have hlen : rows.length = 4 := by rw [hrows]; rfl
  obtain ⟨R, hR⟩ : ∃ R : List (List AV), R = rows.map (fun r => [.int .i64 r.2.1, .int .i64 (r.2.2.1 : Nat), .fn (.func r.1) [] []]) := ⟨_, rfl⟩
  have hR4 : R = [[.int .i64 3, .int .i64 ((rsS b.sorts).length : Nat), .fn (.func 186) [] []], [.int .i64 4, .int .i64 ((rsS b.sorts).length : Nat), .fn (.func 187) [] []], [.int .i64 5, .int .i64 ((rsC b.cons).length : Nat), .fn (.func 188) [] []], [.int .i64 6, .int .i64 ((rsS b.sorts).length : Nat), .fn (.func 189) [] []]] := by rw [hR, hrows, rsS_length, rsC_length]; rfl
  have hRl : R.length = 4 := by rw [hR, List.length_map, hlen]
  have hwn : ¬ base < 0 → ¬ 65535 < base → ¬ n < base → IntKind.i64.wrap (n - base) = n - base := fun q1 q2 q3 => wrap_ok (by omega) (by omega)
  refine FC_intro hty Tryz.func236 rfl rfl rfl fun w0 => ?_
  repeat' (first | refine WL_call 0 rfl hcn rfl rfl rfl ?_ | refine WL_p hty rfl rfl ?_ | refine WL_nil ?_ | refine AC_seq ?_ | refine AC_region ?_ | refine AC_block ?_ | refine AC_skip ?_ | refine AC_condT rfl ?_ | refine AC_condF rfl ?_ | refine AC_exit ?_ | refine AC_ret ?_ | refine WL_ung rfl rfl ?_ | refine WL_offT rfl rfl rfl ?_ | refine WL_offF rfl rfl rfl ?_ | refine WL_offU rfl rfl rfl ?_ | refine WL_m rfl (m_idxN hty rfl rfl rfl (by assumption) rfl) ?_ | refine ends_bool rfl ?_ | refine WL_cmp rfl rfl rfl rfl (fun _ => ?_) (fun _ => ?_) | refine AC_cond rfl (fun _ => ?_) (fun _ => ?_))
  · rw [show ofB b base n = (0, 0) by unfold ofB; rw [if_pos (by assumption)]]
    exact ends_wk rfl rfl (.refl _)
  · rw [show ofB b base n = (0, 0) by unfold ofB; rw [if_neg (by assumption), if_pos (by assumption)]]
    exact ends_wk rfl rfl (.refl _)
  · rw [show ofB b base n = (0, 0) by unfold ofB; rw [if_neg (by assumption), if_neg (by assumption), if_pos (by assumption)]]
    exact ends_wk rfl rfl (.refl _)
  · rename_i h1 h2 h3 h4
    rw [hwn h1 h2 h3] at h4
    rw [show ofB b base n = (0, 0) by unfold ofB; rw [if_neg h1, if_neg h2, if_neg h3, if_pos h4]]
    exact ends_wk rfl rfl (.refl _)
  rename_i h1 h2 h3 h4
  rw [hwn h1 h2 h3] at h4
  have hb1 : ofB b base n = ofL (rows.map (·.2)) n := by unfold ofB; rw [if_neg h1, if_neg h2, if_neg h3, if_neg h4, hof]
  rw [hb1]
  refine AC_for 4 (fun j => ofL (rows.map (·.2)) n = ofL ((rows.drop j).map (·.2)) n) (fun j => ⟨envOf [(1, .int .i64 base), (2, .int .i64 n), (3, .ptr 3 0), (46, .lst 3 R true), (47, .int .i64 4), (48, .int .i64 (j : Nat))], bkOf [(3, .box (cB b))]⟩)
    (less_sub ⟨⟨_, rfl, .inl ⟨.refl _, rfl⟩⟩, ⟨_, rfl, .inl ⟨.refl _, rfl⟩⟩, ⟨_, rfl, .inl ⟨.refl _, rfl⟩⟩, ⟨_, rfl, see_eq ?_ rfl⟩, ⟨_, rfl, .inl ⟨.refl _, rfl⟩⟩, ⟨_, rfl, .inl ⟨.refl _, rfl⟩⟩, trivial⟩ ⟨⟨⟨_, rfl, .refl _⟩, rfl⟩, trivial⟩) rfl ?_
  · rw [hR4]
  intro j hj hI
  repeat' (first | refine WL_p hty rfl rfl ?_ | refine WL_nil ?_ | refine AC_seq ?_ | refine AC_region ?_ | refine AC_block ?_ | refine AC_skip ?_ | refine AC_condT rfl ?_ | refine AC_condF rfl ?_ | refine AC_exit ?_ | refine AC_ret ?_ | refine WL_ung rfl rfl ?_ | refine WL_offT rfl rfl rfl ?_ | refine WL_offF rfl rfl rfl ?_ | refine WL_offU rfl rfl rfl ?_ | refine WL_m rfl (m_idxN hty rfl rfl rfl (by assumption) rfl) ?_ | refine ends_bool rfl ?_)
  refine WL_cmp rfl rfl rfl rfl (fun hc => ?_) (fun hc => ?_)
  · have hlt : j < 4 := by omega
    obtain ⟨⟨g, kd, m, f⟩, hr, hmem⟩ := get_of_lt (show j < rows.length by omega)
    obtain ⟨hm, hfc⟩ := hrs _ hmem
    simp only at hm hfc
    have rR : R[j]? = some [.int .i64 kd, .int .i64 (m : Nat), .fn (.func g) [] []] := by rw [hR, List.getElem?_map, hr]; rfl
    have hdr : rows.drop j = (g, kd, m, f) :: rows.drop (j + 1) := by
      rw [List.drop_eq_getElem_cons (show j < rows.length by omega)]
      rw [List.getElem?_eq_getElem (show j < rows.length by omega)] at hr
      rw [Option.some.inj hr]
    rw [hdr, List.map_cons] at hI
    simp only [ofL] at hI
    rw [hI]
    repeat' (first | refine WL_m rfl (m_idxN (i := j) hty rfl rfl rfl rR rfl) ?_ | refine WL_p hty rfl rfl ?_ | refine WL_nil ?_ | refine AC_seq ?_ | refine AC_region ?_ | refine AC_block ?_ | refine AC_skip ?_ | refine AC_condT rfl ?_ | refine AC_condF rfl ?_ | refine AC_exit ?_ | refine AC_ret ?_ | refine WL_ung rfl rfl ?_ | refine WL_offT rfl rfl rfl ?_ | refine WL_offF rfl rfl rfl ?_ | refine WL_offU rfl rfl rfl ?_ | refine WL_m rfl (m_idxN hty rfl rfl rfl (by assumption) rfl) ?_ | refine ends_bool rfl ?_ | refine WL_cmp rfl rfl rfl rfl (fun _ => ?_) (fun _ => ?_) | refine AC_cond rfl (fun _ => ?_) (fun _ => ?_))
    refine AC_for m (fun k => ((List.range m).take k).any (fun i : Nat => decide (f i = n)) = false) (fun k => ⟨envOf [(1, .int .i64 base), (2, .int .i64 n), (3, .ptr 3 0), (9, .ptr 9 0), (46, .lst 3 R true), (47, .int .i64 4), (48, .int .i64 (j : Nat)), (53, .int .i64 (m : Nat)), (54, .int .i64 (k : Nat))],
        bkOf [(3, .box (cB b)), (9, .box [.int .i64 kd, .int .i64 (m : Nat), .fn (.func g) [] []])]⟩)
      (less_sub ⟨⟨_, rfl, .inl ⟨.refl _, rfl⟩⟩, ⟨_, rfl, .inl ⟨.refl _, rfl⟩⟩, ⟨_, rfl, .inl ⟨.refl _, rfl⟩⟩, ⟨_, rfl, .inl ⟨.refl _, rfl⟩⟩, ⟨_, rfl, .inl ⟨.refl _, rfl⟩⟩, ⟨_, rfl, .inl ⟨.refl _, rfl⟩⟩, ⟨_, rfl, .inl ⟨.refl _, rfl⟩⟩, ⟨_, rfl, .inl ⟨.refl _, rfl⟩⟩, ⟨_, rfl, .inl ⟨.refl _, rfl⟩⟩, trivial⟩ ⟨⟨⟨_, rfl, .refl _⟩, rfl⟩, ⟨⟨_, rfl, .refl _⟩, rfl⟩, trivial⟩) rfl ?_
    intro k hk hJ
    repeat' (first | refine WL_p hty rfl rfl ?_ | refine WL_nil ?_ | refine AC_seq ?_ | refine AC_region ?_ | refine AC_block ?_ | refine AC_skip ?_ | refine AC_condT rfl ?_ | refine AC_condF rfl ?_ | refine AC_exit ?_ | refine AC_ret ?_ | refine WL_ung rfl rfl ?_ | refine WL_offT rfl rfl rfl ?_ | refine WL_offF rfl rfl rfl ?_ | refine WL_offU rfl rfl rfl ?_ | refine WL_m rfl (m_idxN hty rfl rfl rfl (by assumption) rfl) ?_ | refine ends_bool rfl ?_)
    refine WL_cmp rfl rfl rfl rfl (fun hc => ?_) (fun hc => ?_)
    · have hkm : k < m := by omega
      repeat' (first | refine WL_m rfl (m_callF 0 rfl rfl rfl (hfc (k : Nat)) rfl rfl rfl) ?_ | refine WL_p hty rfl rfl ?_ | refine WL_nil ?_ | refine AC_seq ?_ | refine AC_region ?_ | refine AC_block ?_ | refine AC_skip ?_ | refine AC_condT rfl ?_ | refine AC_condF rfl ?_ | refine AC_exit ?_ | refine AC_ret ?_ | refine WL_ung rfl rfl ?_ | refine WL_offT rfl rfl rfl ?_ | refine WL_offF rfl rfl rfl ?_ | refine WL_offU rfl rfl rfl ?_ | refine WL_m rfl (m_idxN hty rfl rfl rfl (by assumption) rfl) ?_ | refine ends_bool rfl ?_ | refine WL_cmp rfl rfl rfl rfl (fun _ => ?_) (fun _ => ?_) | refine AC_cond rfl (fun _ => ?_) (fun _ => ?_))
      · rename_i hfk
        have hid : idxF (fun i : Nat => decide (f i = n)) (List.range m) = (k : Nat) := idxF_hit (a := k) (by simp [hfk]) hJ (range_get hkm)
        rw [hid, if_pos (Int.natCast_nonneg _)]
        exact ends_wk rfl rfl (.refl _)
      · rename_i hfk
        refine ⟨hkm, ?_, (less_sub ⟨⟨_, rfl, .inl ⟨.refl _, rfl⟩⟩, ⟨_, rfl, .inl ⟨.refl _, rfl⟩⟩, ⟨_, rfl, .inl ⟨.refl _, rfl⟩⟩, ⟨_, rfl, .inl ⟨.refl _, rfl⟩⟩, ⟨_, rfl, .inl ⟨.refl _, rfl⟩⟩, ⟨_, rfl, .inl ⟨.refl _, rfl⟩⟩, ⟨_, rfl, .inl ⟨.refl _, rfl⟩⟩, ⟨_, rfl, .inl ⟨.refl _, rfl⟩⟩, ⟨_, rfl, see_eq ?_ rfl⟩, trivial⟩ ⟨⟨⟨_, rfl, .refl _⟩, rfl⟩, ⟨⟨_, rfl, .refl _⟩, rfl⟩, trivial⟩)⟩
        · rw [any_take_succ (range_get hkm), hJ]; simp [hfk]
        · exact congrArg (AV.int .i64) ((wrap_ok (by omega) (by omega)).trans (by omega))
    · obtain rfl : k = m := by omega
      have hid : idxF (fun i : Nat => decide (f i = n)) (List.range k) = -1 := idxF_none (by rw [List.take_of_length_le (by rw [List.length_range]; exact Nat.le_refl _)] at hJ; exact hJ)
      rw [hid, if_neg (by decide)] at hI ⊢
      repeat' (first | refine WL_p hty rfl rfl ?_ | refine WL_nil ?_ | refine AC_seq ?_ | refine AC_region ?_ | refine AC_block ?_ | refine AC_skip ?_ | refine AC_condT rfl ?_ | refine AC_condF rfl ?_ | refine AC_exit ?_ | refine AC_ret ?_ | refine WL_ung rfl rfl ?_ | refine WL_offT rfl rfl rfl ?_ | refine WL_offF rfl rfl rfl ?_ | refine WL_offU rfl rfl rfl ?_ | refine WL_m rfl (m_idxN hty rfl rfl rfl (by assumption) rfl) ?_ | refine ends_bool rfl ?_ | refine WL_cmp rfl rfl rfl rfl (fun _ => ?_) (fun _ => ?_) | refine AC_cond rfl (fun _ => ?_) (fun _ => ?_))
      refine ⟨hlt, rfl, (less_sub ⟨⟨_, rfl, .inl ⟨.refl _, rfl⟩⟩, ⟨_, rfl, .inl ⟨.refl _, rfl⟩⟩, ⟨_, rfl, .inl ⟨.refl _, rfl⟩⟩, ⟨_, rfl, .inl ⟨.refl _, rfl⟩⟩, ⟨_, rfl, .inl ⟨.refl _, rfl⟩⟩, ⟨_, rfl, see_eq ?_ rfl⟩, trivial⟩ ⟨⟨⟨_, rfl, .refl _⟩, rfl⟩, trivial⟩)⟩
      exact congrArg (AV.int .i64) ((wrap_ok (by omega) (by omega)).trans (by omega))
  · obtain rfl : j = 4 := by omega
    have hd4 : rows.drop 4 = [] := List.drop_of_length_le (by omega)
    rw [hd4] at hI
    repeat' (first | refine WL_p hty rfl rfl ?_ | refine WL_nil ?_ | refine AC_seq ?_ | refine AC_region ?_ | refine AC_block ?_ | refine AC_skip ?_ | refine AC_condT rfl ?_ | refine AC_condF rfl ?_ | refine AC_exit ?_ | refine AC_ret ?_ | refine WL_ung rfl rfl ?_ | refine WL_offT rfl rfl rfl ?_ | refine WL_offF rfl rfl rfl ?_ | refine WL_offU rfl rfl rfl ?_ | refine WL_m rfl (m_idxN hty rfl rfl rfl (by assumption) rfl) ?_ | refine ends_bool rfl ?_ | refine WL_cmp rfl rfl rfl rfl (fun _ => ?_) (fun _ => ?_) | refine AC_cond rfl (fun _ => ?_) (fun _ => ?_))
    rw [hI]
    exact ends_wk rfl rfl (.refl _)

end Go.Proofs.YtoknnfhgoikpiaaGreat

/-
  The program's terms: in scope, alike; rows that are alike.
-/
namespace Go.Proofs.YtoknnfhgoikpiaaGreat
set_option linter.unusedSimpArgs false
set_option linter.unusedVariables false
open Go.Aw Go.RowKit
def tbScope86_11 : List (Nat × List Nat) := [(0, []), (1, []), (2, []), (3, [2]), (4, []), (5, [2, 3, 4]), (6, [1, 2, 3, 4, 5]), (7, []), (8, [0, 1, 2, 3, 4, 5, 6, 7]), (9, [0, 1, 2, 3, 4, 5, 6, 7, 8])]
attribute [local irreducible] WL AC WD WE MStep OkOp

theorem hbool : isBoolT Tryz.prog 4 = true := by kernel_rfl
attribute [local irreducible] isBoolT

theorem tnone_spec (t : Tm) : FC Tryz.prog 130 [aT t] (.bool (decide (t = zT))) := by
  refine FC_intro hty Tryz.func130 rfl rfl rfl fun w0 => ?_
  repeat' (first | refine WL_p hty rfl rfl ?_ | refine WL_nil ?_ | refine AC_seq ?_ | refine AC_region ?_ | refine AC_skip ?_ | refine AC_ret ?_ | refine WL_ung rfl rfl ?_ | refine WL_offT rfl rfl rfl ?_ | refine WL_offF rfl rfl rfl ?_ | refine WL_offU rfl rfl rfl ?_ | refine ends_bool rfl ?_ | refine WL_cmp rfl rfl rfl rfl (fun _ => ?_) (fun _ => ?_))
  · rename_i h1 h2 h3
    rw [rsT_length] at h3
    exact (decide_eq_true (Tm.ext h1 h2 (List.length_eq_zero_iff.1 (by omega)))).symm
  · rename_i h3
    rw [rsT_length] at h3
    exact (decide_eq_false fun h => h3 (by rw [h]; rfl)).symm
  · rename_i h3
    exact (decide_eq_false fun h => h3 (by rw [h]; rfl)).symm
  · rename_i h3
    exact (decide_eq_false fun h => h3 (by rw [h]; rfl)).symm

set_option maxHeartbeats 4000000 in
theorem within_all : ∀ n, n ≤ 1048576 → ∀ (t : Tm) (v c : Int), t.size ≤ n → 0 ≤ v → v + t.depth ≤ 4194304 → FC Tryz.prog 86 [aT t, .int .i64 v, .int .i64 c] (.bool (scopedT t v c)) := by
  intro n
  induction n with
  | zero => intro hn t v c ht; have := t.size_pos; omega
  | succ n ih =>
  intro hn t v c ht hv0 hv
  have ih := ih (by omega)
  have hs := t.size_eq
  have hdp := t.depth_eq
  have hlen := len_le_sizes t.kids
  have hfe := scopedT_eq t v c
  refine FC_intro hty Tryz.func86 rfl rfl rfl fun w0 => ?_
  repeat' (first | refine WL_p hty rfl rfl ?_ | refine WL_nil ?_ | refine AC_seq ?_ | refine AC_region ?_ | refine AC_block ?_ | refine AC_skip ?_ | refine AC_condT rfl ?_ | refine AC_condF rfl ?_ | refine AC_exit ?_ | refine AC_ret ?_ | refine WL_m rfl (m_idxN hty rfl rfl rfl (by assumption) rfl) ?_ | refine ends_bool rfl ?_ | refine WL_cmp rfl rfl rfl rfl (fun _ => ?_) (fun _ => ?_) | refine AC_cond rfl (fun _ => ?_) (fun _ => ?_))
  · rw [hfe, if_pos (by assumption)]; simp [*]
  · rw [hfe, if_pos (by assumption)]; simp [*]
  · rw [hfe, if_neg (by assumption), if_pos (by assumption)]; simp [*]
  · rw [hfe, if_neg (by assumption), if_pos (by assumption)]; simp [*]
  · rw [hfe, if_neg (by assumption), if_neg (by assumption), if_pos (by assumption)]; simp [*]
  · rw [hfe, if_neg (by assumption), if_neg (by assumption), if_pos (by assumption)]; simp [*]
  rw [if_neg (by assumption), if_neg (by assumption), if_neg (by assumption)] at hfe
  refine AC_for t.kids.length (fun j => scopedTs t.kind 0 (t.kids.take j) v c = true) (fun j => ⟨envOf [(1, .int .i64 v), (2, .int .i64 c), (3, .ptr 3 0), (29, sT t.kids), (30, .int .i64 ((rsT t.kids).length : Nat)), (31, .int .i64 (j : Nat))], bkOf [(3, .box (cT t))]⟩) (less_sub ⟨⟨_, rfl, .inl ⟨.refl _, rfl⟩⟩, ⟨_, rfl, .inl ⟨.refl _, rfl⟩⟩, ⟨_, rfl, .inl ⟨.refl _, rfl⟩⟩, ⟨_, rfl, .inl ⟨.refl _, rfl⟩⟩, ⟨_, rfl, .inl ⟨.refl _, rfl⟩⟩, ⟨_, rfl, .inl ⟨.refl _, rfl⟩⟩, trivial⟩ ⟨⟨⟨_, rfl, .refl _⟩, rfl⟩, trivial⟩) rfl ?_
  intro j hj hI
  repeat' (first | refine WL_p hty rfl rfl ?_ | refine WL_nil ?_ | refine AC_seq ?_ | refine AC_region ?_ | refine AC_block ?_ | refine AC_skip ?_ | refine AC_condT rfl ?_ | refine AC_condF rfl ?_ | refine AC_exit ?_ | refine AC_ret ?_ | refine WL_m rfl (m_idxN hty rfl rfl rfl (by assumption) rfl) ?_ | refine ends_bool rfl ?_)
  refine WL_cmp rfl rfl rfl rfl (fun hc => ?_) (fun hc => ?_)
  · have hlt : j < t.kids.length := by rw [rsT_length] at hc; omega
    obtain ⟨k, hk, hmem⟩ := get_of_lt hlt
    have hks := size_le_sizes hmem
    have hkd := depth_le_depths hmem
    have rk := rsT_get hk
    have hbi : 0 ≤ bindsR t.kind (j : Nat) ∧ bindsR t.kind (j : Nat) ≤ 1 := by unfold bindsR; split <;> omega
    have hwr : IntKind.i64.wrap (v + bindsR t.kind (j : Nat)) = v + bindsR t.kind (j : Nat) := wrap_ok (n := v + bindsR t.kind (j : Nat)) (by omega) (by omega)
    have hkc := ih k (v + bindsR t.kind (j : Nat)) c (by omega) (by omega) (by omega)
    rw [← hwr] at hkc
    have hsp : scopedTs t.kind 0 t.kids v c = (scopedTs t.kind 0 (t.kids.take j) v c && (scopedT k (v + bindsR t.kind (j : Nat)) c && scopedTs t.kind (0 + (j : Nat) + 1) (t.kids.drop (j + 1)) v c)) := by
      conv => lhs; rw [← List.take_append_drop j t.kids, scopedTs_append, List.drop_eq_getElem_cons hlt, scopedTs]
      have h1 : (t.kids.take j).length = j := by rw [List.length_take]; omega
      have h2 : t.kids[j] = k := by rw [List.getElem?_eq_getElem hlt] at hk; exact Option.some.inj hk
      rw [h1, h2, Int.zero_add]
    have hst : scopedTs t.kind 0 (t.kids.take (j + 1)) v c = (scopedTs t.kind 0 (t.kids.take j) v c && scopedT k (v + bindsR t.kind (j : Nat)) c) := by
      have h1 : (t.kids.take j).length = j := by rw [List.length_take]; omega
      rw [List.take_add_one, hk, Option.toList_some, scopedTs_append, h1]
      simp [scopedTs]
    repeat' (first | refine AC_drawnE (id := 11) tbScope86_11 rfl (by kernel_rfl) ?_ | refine WE_call 0 rfl (kbinds_spec _ _) rfl rfl rfl ?_ | refine WE_callB rfl hkc rfl (fun _ => ?_) (fun _ => ?_) | refine WE_cons (.inl ⟨rfl, stepE_ok hty rfl rfl⟩) ?_ | refine WE_nil ⟨by kernel_rfl, ?_⟩ | refine WL_p hty rfl rfl ?_ | refine WL_nil ?_ | refine AC_seq ?_ | refine AC_region ?_ | refine AC_block ?_ | refine AC_skip ?_ | refine AC_condT rfl ?_ | refine AC_condF rfl ?_ | refine AC_exit ?_ | refine AC_ret ?_ | refine WL_m rfl (m_idxN hty rfl rfl rfl (by assumption) rfl) ?_ | refine ends_bool rfl ?_ | refine WL_cmp rfl rfl rfl rfl (fun _ => ?_) (fun _ => ?_) | refine AC_cond rfl (fun _ => ?_) (fun _ => ?_) | refine WE_cmp rfl rfl rfl rfl (fun _ => ?_) (fun _ => ?_))
    all_goals (rename_i hb; rw [hwr] at hb)
    · refine ⟨hlt, by rw [hst, hI, hb]; rfl, (less_sub ⟨⟨_, rfl, .inl ⟨.refl _, rfl⟩⟩, ⟨_, rfl, .inl ⟨.refl _, rfl⟩⟩, ⟨_, rfl, .inl ⟨.refl _, rfl⟩⟩, ⟨_, rfl, .inl ⟨.refl _, rfl⟩⟩, ⟨_, rfl, .inl ⟨.refl _, rfl⟩⟩, ⟨_, rfl, see_eq ?_ rfl⟩, trivial⟩ ⟨⟨⟨_, rfl, .refl _⟩, rfl⟩, trivial⟩)⟩
      exact congrArg (AV.int .i64) ((wrap_ok (by omega) (by omega)).trans (by omega))
    · rw [hfe, hsp, hb]; simp
  · obtain rfl : j = t.kids.length := by rw [rsT_length] at hc; omega
    rw [List.take_length] at hI
    repeat' (first | refine WL_p hty rfl rfl ?_ | refine WL_nil ?_ | refine AC_seq ?_ | refine AC_region ?_ | refine AC_block ?_ | refine AC_skip ?_ | refine AC_condT rfl ?_ | refine AC_condF rfl ?_ | refine AC_exit ?_ | refine AC_ret ?_ | refine WL_m rfl (m_idxN hty rfl rfl rfl (by assumption) rfl) ?_ | refine ends_bool rfl ?_ | refine WL_cmp rfl rfl rfl rfl (fun _ => ?_) (fun _ => ?_) | refine AC_cond rfl (fun _ => ?_) (fun _ => ?_))
    rw [hfe, hI]

mutual
theorem scoped_big : ∀ (t : Tm) (v v' c : Int), formedT t = true → 65536 ≤ v → 65536 ≤ v' → scopedT t v c = scopedT t v' c
  | .mk k n l, v, v', c, hf, h1, h2 => by
    rw [scopedT, scopedT]
    split
    · rename_i hk
      have := formedT_var hf hk
      simp only [Tm.num] at this
      rw [decide_eq_true (by omega), decide_eq_true (by omega)]
    · rw [scopeds_big k 0 l v v' c (fun u hu => formedT_kids (t := .mk k n l) hf hu) h1 h2]
theorem scopeds_big : ∀ (k i : Int) (l : List Tm) (v v' c : Int), (∀ u, u ∈ l → formedT u = true) → 65536 ≤ v → 65536 ≤ v' → scopedTs k i l v c = scopedTs k i l v' c
  | _, _, [], _, _, _, _, _, _ => rfl
  | k, i, t :: l, v, v', c, hf, h1, h2 => by
    have hbi : 0 ≤ bindsR k i := by unfold bindsR; split <;> omega
    rw [scopedTs, scopedTs, scoped_big t (v + bindsR k i) (v' + bindsR k i) c (hf t List.mem_cons_self) (by omega) (by omega), scopeds_big k (i + 1) l v v' c (fun u hu => hf u (List.mem_cons_of_mem _ hu)) h1 h2]
end

theorem tscope_spec (t : Tm) (v c : Int) (h : t.size ≤ 1048576) : FC Tryz.prog 30 [aT t, .int .i64 v, .int .i64 c] (.bool (scopeT t v c)) := by
  have hd := t.depth_le
  have hsc : checkT t = 0 → scopedT t (if 1048576 < v then 1048576 else v) c = scopedT t (if 65536 < v then 65536 else v) c := by
    intro hc
    have hf := (checkT_ok0 hc)
    by_cases h1 : 1048576 < v
    · rw [if_pos h1, if_pos (by omega)]; exact scoped_big t _ _ c hf (by omega) (by omega)
    · rw [if_neg h1]
      by_cases h2 : 65536 < v
      · rw [if_pos h2]; exact scoped_big t _ _ c hf (by omega) (by omega)
      · rw [if_neg h2]
  refine FC_intro hty Tryz.func30 rfl rfl rfl fun w0 => ?_
  repeat' (first | refine WL_call 0 rfl (tcheck_spec t h) rfl rfl rfl ?_ | refine WL_m rfl (m_min rfl rfl rfl) ?_ | refine WL_callB rfl (within_all 1048576 (by omega) t _ c h (by split <;> omega) (by split <;> omega)) rfl (fun _ => ?_) (fun _ => ?_) | refine WL_p hty rfl rfl ?_ | refine WL_nil ?_ | refine AC_seq ?_ | refine AC_region ?_ | refine AC_skip ?_ | refine AC_ret ?_ | refine WL_ung rfl rfl ?_ | refine WL_offT rfl rfl rfl ?_ | refine WL_offF rfl rfl rfl ?_ | refine WL_offU rfl rfl rfl ?_ | refine ends_bool rfl ?_ | refine WL_cmp rfl rfl rfl rfl (fun _ => ?_) (fun _ => ?_))
  all_goals first
    | (simp [scopeT, *]; done)
    | (rename_i h1 h2 h3 h4; rw [scopeT, hsc h3, decide_eq_true (by omega), decide_eq_true (by omega), decide_eq_true h3, h4]; rfl)

/-! rows that are alike -/
def eqB {α : Type} (p : α → α → Bool) : List α → List α → Bool
  | [], [] => true
  | a :: l, b :: r => p a b && eqB p l r
  | _, _ => false
theorem eqB_len {α : Type} {p : α → α → Bool} : ∀ {l r : List α}, l.length ≠ r.length → eqB p l r = false
  | [], [], h => absurd rfl h
  | [], _ :: _, _ => rfl
  | _ :: _, [], _ => rfl
  | a :: l, b :: r, h => by simp only [eqB, eqB_len (p := p) (l := l) (r := r) (fun q => h (by simp [q])), Bool.and_false]
theorem eqB_all {α : Type} {p : α → α → Bool} : ∀ {l r : List α}, l.length = r.length → (∀ (i : Nat) (a b : α), l[i]? = some a → r[i]? = some b → p a b = true) → eqB p l r = true
  | [], [], _, _ => rfl
  | [], _ :: _, h, _ => by simp at h
  | _ :: _, [], h, _ => by simp at h
  | a :: l, b :: r, h, q => by
    simp only [eqB, q 0 a b rfl rfl, Bool.true_and]
    exact eqB_all (by simpa using h) (fun i a b h1 h2 => q (i + 1) a b (by simpa using h1) (by simpa using h2))
theorem eqB_not {α : Type} {p : α → α → Bool} : ∀ {l r : List α} {i : Nat} {a b : α}, l[i]? = some a → r[i]? = some b → p a b = false → eqB p l r = false
  | a :: l, b :: r, 0, x, y, h1, h2, hp => by
    obtain rfl : a = x := by simpa using h1
    obtain rfl : b = y := by simpa using h2
    simp only [eqB, hp, Bool.false_and]
  | a :: l, b :: r, i + 1, x, y, h1, h2, hp => by
    simp only [eqB, eqB_not (l := l) (r := r) (by simpa using h1) (by simpa using h2) hp, Bool.and_false]
  | [], _, _, _, _, h, _, _ => by simp at h
  | _ :: _, [], _, _, _, _, h, _ => by simp at h
theorem eqB_eq {α : Type} [DecidableEq α] : ∀ (l r : List α), eqB (fun x y => decide (x = y)) l r = decide (l = r)
  | [], [] => rfl
  | [], _ :: _ => rfl
  | _ :: _, [] => rfl
  | a :: l, b :: r => by
    simp only [eqB, eqB_eq l r, List.cons.injEq]
    by_cases h : a = b <;> by_cases h2 : l = r <;> simp [h, h2]

theorem equalFuncT_spec (g : Nat) (xa : List AV) (hxa : xa.all closed0 = true) (p : Tm → Tm → Bool) (la lb : List Tm) (hl : la.length ≤ 1048576) (h : ∀ (i : Nat) (x y : Tm), la[i]? = some x → lb[i]? = some y → FC Tryz.prog g ([aT x, aT y] ++ xa) (.bool (p x y))) :
    FC Tryz.prog 192 [sT la, sT lb, .fn (.func g) [] xa] (.bool (eqB p la lb)) := by
  have hcl : closedS (.fn (.func g) [] xa) = true := by simp only [closedS, hxa]; rfl
  refine FC_intro hty Tryz.func192 rfl rfl rfl fun w0 => ?_
  repeat' (first | refine WL_p hty rfl rfl ?_ | refine WL_nil ?_ | refine AC_seq ?_ | refine AC_region ?_ | refine AC_block ?_ | refine AC_skip ?_ | refine AC_condT rfl ?_ | refine AC_condF rfl ?_ | refine AC_exit ?_ | refine AC_ret ?_ | refine WL_m rfl (m_idxN hty rfl rfl rfl (by assumption) rfl) ?_ | refine ends_bool rfl ?_ | refine WL_cmp rfl rfl rfl rfl (fun _ => ?_) (fun _ => ?_) | refine AC_cond rfl (fun _ => ?_) (fun _ => ?_))
  · rename_i hne
    rw [rsT_length, rsT_length] at hne
    exact (eqB_len (fun q => hne (by rw [q]))).symm
  rename_i hne
  rw [rsT_length, rsT_length] at hne
  have hll : la.length = lb.length := by omega
  refine AC_for la.length (fun j => ∀ (i : Nat) (a b : Tm), i < j → la[i]? = some a → lb[i]? = some b → p a b = true) (fun j => ⟨envOf [(1, sT lb), (2, .fn (.func g) [] xa), (15, sT la), (16, .int .i64 ((rsT la).length : Nat)), (17, .int .i64 (j : Nat))], bkOf []⟩)
    (less_sub ⟨⟨_, rfl, .inl ⟨.refl _, rfl⟩⟩, ⟨_, rfl, .inl ⟨.refl _, closedS_keepV hcl⟩⟩, ⟨_, rfl, .inl ⟨.refl _, rfl⟩⟩, ⟨_, rfl, .inl ⟨.refl _, rfl⟩⟩, ⟨_, rfl, .inl ⟨.refl _, rfl⟩⟩, trivial⟩ trivial) (fun i a b hi => absurd hi (Nat.not_lt_zero _)) ?_
  intro j hj hI
  repeat' (first | refine WL_p hty rfl rfl ?_ | refine WL_nil ?_ | refine AC_seq ?_ | refine AC_region ?_ | refine AC_block ?_ | refine AC_skip ?_ | refine AC_condT rfl ?_ | refine AC_condF rfl ?_ | refine AC_exit ?_ | refine AC_ret ?_ | refine WL_m rfl (m_idxN hty rfl rfl rfl (by assumption) rfl) ?_ | refine ends_bool rfl ?_)
  refine WL_cmp rfl rfl rfl rfl (fun hc => ?_) (fun hc => ?_)
  · have hlt : j < la.length := by rw [rsT_length] at hc; omega
    obtain ⟨a, ha, _⟩ := get_of_lt hlt
    obtain ⟨b, hb, _⟩ := get_of_lt (hll ▸ hlt)
    have ra := rsT_get ha
    have rb := rsT_get hb
    repeat' (first | refine WL_callFB rfl (by simp [hxa]) rfl (h j a b ha hb) rfl (fun _ => ?_) (fun _ => ?_) | refine WL_p hty rfl rfl ?_ | refine WL_nil ?_ | refine AC_seq ?_ | refine AC_region ?_ | refine AC_block ?_ | refine AC_skip ?_ | refine AC_condT rfl ?_ | refine AC_condF rfl ?_ | refine AC_exit ?_ | refine AC_ret ?_ | refine WL_m rfl (m_idxN hty rfl rfl rfl (by assumption) rfl) ?_ | refine ends_bool rfl ?_ | refine WL_cmp rfl rfl rfl rfl (fun _ => ?_) (fun _ => ?_) | refine AC_cond rfl (fun _ => ?_) (fun _ => ?_))
    · rename_i hp
      refine ⟨hlt, fun i x y hi hx hy => ?_, (less_sub ⟨⟨_, rfl, .inl ⟨.refl _, rfl⟩⟩, ⟨_, rfl, .inl ⟨.refl _, closedS_keepV hcl⟩⟩, ⟨_, rfl, .inl ⟨.refl _, rfl⟩⟩, ⟨_, rfl, .inl ⟨.refl _, rfl⟩⟩, ⟨_, rfl, see_eq ?_ rfl⟩, trivial⟩ trivial)⟩
      · rcases Nat.lt_or_ge i j with q | q
        · exact hI i x y q hx hy
        · obtain rfl : i = j := by omega
          rw [ha] at hx
          rw [hb] at hy
          obtain rfl := Option.some.inj hx
          obtain rfl := Option.some.inj hy
          exact hp
      · exact congrArg (AV.int .i64) ((wrap_ok (by omega) (by omega)).trans (by omega))
    · exact (eqB_not ha hb ‹_›).symm
  · obtain rfl : j = la.length := by rw [rsT_length] at hc; omega
    repeat' (first | refine WL_p hty rfl rfl ?_ | refine WL_nil ?_ | refine AC_seq ?_ | refine AC_region ?_ | refine AC_block ?_ | refine AC_skip ?_ | refine AC_condT rfl ?_ | refine AC_condF rfl ?_ | refine AC_exit ?_ | refine AC_ret ?_ | refine WL_m rfl (m_idxN hty rfl rfl rfl (by assumption) rfl) ?_ | refine ends_bool rfl ?_ | refine WL_cmp rfl rfl rfl rfl (fun _ => ?_) (fun _ => ?_) | refine AC_cond rfl (fun _ => ?_) (fun _ => ?_))
    exact (eqB_all hll (fun i a b h1 h2 => hI i a b (List.getElem?_eq_some_iff.1 h1).1 h1 h2)).symm

theorem equalFuncA_spec (g : Nat) (xa : List AV) (hxa : xa.all closed0 = true) (p : Ar → Ar → Bool) (la lb : List Ar) (hl : la.length ≤ 1048576) (h : ∀ (i : Nat) (x y : Ar), la[i]? = some x → lb[i]? = some y → FC Tryz.prog g ([aA x, aA y] ++ xa) (.bool (p x y))) :
    FC Tryz.prog 190 [sA la, sA lb, .fn (.func g) [] xa] (.bool (eqB p la lb)) := by
  have hcl : closedS (.fn (.func g) [] xa) = true := by simp only [closedS, hxa]; rfl
  refine FC_intro hty Tryz.func190 rfl rfl rfl fun w0 => ?_
  repeat' (first | refine WL_p hty rfl rfl ?_ | refine WL_nil ?_ | refine AC_seq ?_ | refine AC_region ?_ | refine AC_block ?_ | refine AC_skip ?_ | refine AC_condT rfl ?_ | refine AC_condF rfl ?_ | refine AC_exit ?_ | refine AC_ret ?_ | refine WL_m rfl (m_idxN hty rfl rfl rfl (by assumption) rfl) ?_ | refine ends_bool rfl ?_ | refine WL_cmp rfl rfl rfl rfl (fun _ => ?_) (fun _ => ?_) | refine AC_cond rfl (fun _ => ?_) (fun _ => ?_))
  · rename_i hne
    rw [rsA_length, rsA_length] at hne
    exact (eqB_len (fun q => hne (by rw [q]))).symm
  rename_i hne
  rw [rsA_length, rsA_length] at hne
  have hll : la.length = lb.length := by omega
  refine AC_for la.length (fun j => ∀ (i : Nat) (a b : Ar), i < j → la[i]? = some a → lb[i]? = some b → p a b = true) (fun j => ⟨envOf [(1, sA lb), (2, .fn (.func g) [] xa), (15, sA la), (16, .int .i64 ((rsA la).length : Nat)), (17, .int .i64 (j : Nat))], bkOf []⟩)
    (less_sub ⟨⟨_, rfl, .inl ⟨.refl _, rfl⟩⟩, ⟨_, rfl, .inl ⟨.refl _, closedS_keepV hcl⟩⟩, ⟨_, rfl, .inl ⟨.refl _, rfl⟩⟩, ⟨_, rfl, .inl ⟨.refl _, rfl⟩⟩, ⟨_, rfl, .inl ⟨.refl _, rfl⟩⟩, trivial⟩ trivial) (fun i a b hi => absurd hi (Nat.not_lt_zero _)) ?_
  intro j hj hI
  repeat' (first | refine WL_p hty rfl rfl ?_ | refine WL_nil ?_ | refine AC_seq ?_ | refine AC_region ?_ | refine AC_block ?_ | refine AC_skip ?_ | refine AC_condT rfl ?_ | refine AC_condF rfl ?_ | refine AC_exit ?_ | refine AC_ret ?_ | refine WL_m rfl (m_idxN hty rfl rfl rfl (by assumption) rfl) ?_ | refine ends_bool rfl ?_)
  refine WL_cmp rfl rfl rfl rfl (fun hc => ?_) (fun hc => ?_)
  · have hlt : j < la.length := by rw [rsA_length] at hc; omega
    obtain ⟨a, ha, _⟩ := get_of_lt hlt
    obtain ⟨b, hb, _⟩ := get_of_lt (hll ▸ hlt)
    have ra := rsA_get ha
    have rb := rsA_get hb
    repeat' (first | refine WL_callFB rfl (by simp [hxa]) rfl (h j a b ha hb) rfl (fun _ => ?_) (fun _ => ?_) | refine WL_p hty rfl rfl ?_ | refine WL_nil ?_ | refine AC_seq ?_ | refine AC_region ?_ | refine AC_block ?_ | refine AC_skip ?_ | refine AC_condT rfl ?_ | refine AC_condF rfl ?_ | refine AC_exit ?_ | refine AC_ret ?_ | refine WL_m rfl (m_idxN hty rfl rfl rfl (by assumption) rfl) ?_ | refine ends_bool rfl ?_ | refine WL_cmp rfl rfl rfl rfl (fun _ => ?_) (fun _ => ?_) | refine AC_cond rfl (fun _ => ?_) (fun _ => ?_))
    · rename_i hp
      refine ⟨hlt, fun i x y hi hx hy => ?_, (less_sub ⟨⟨_, rfl, .inl ⟨.refl _, rfl⟩⟩, ⟨_, rfl, .inl ⟨.refl _, closedS_keepV hcl⟩⟩, ⟨_, rfl, .inl ⟨.refl _, rfl⟩⟩, ⟨_, rfl, .inl ⟨.refl _, rfl⟩⟩, ⟨_, rfl, see_eq ?_ rfl⟩, trivial⟩ trivial)⟩
      · rcases Nat.lt_or_ge i j with q | q
        · exact hI i x y q hx hy
        · obtain rfl : i = j := by omega
          rw [ha] at hx
          rw [hb] at hy
          obtain rfl := Option.some.inj hx
          obtain rfl := Option.some.inj hy
          exact hp
      · exact congrArg (AV.int .i64) ((wrap_ok (by omega) (by omega)).trans (by omega))
    · exact (eqB_not ha hb ‹_›).symm
  · obtain rfl : j = la.length := by rw [rsA_length] at hc; omega
    repeat' (first | refine WL_p hty rfl rfl ?_ | refine WL_nil ?_ | refine AC_seq ?_ | refine AC_region ?_ | refine AC_block ?_ | refine AC_skip ?_ | refine AC_condT rfl ?_ | refine AC_condF rfl ?_ | refine AC_exit ?_ | refine AC_ret ?_ | refine WL_m rfl (m_idxN hty rfl rfl rfl (by assumption) rfl) ?_ | refine ends_bool rfl ?_ | refine WL_cmp rfl rfl rfl rfl (fun _ => ?_) (fun _ => ?_) | refine AC_cond rfl (fun _ => ?_) (fun _ => ?_))
    exact (eqB_all hll (fun i a b h1 h2 => hI i a b (List.getElem?_eq_some_iff.1 h1).1 h1 h2)).symm

theorem equalFuncS_spec (g : Nat) (xa : List AV) (hxa : xa.all closed0 = true) (p : Sr → Sr → Bool) (la lb : List Sr) (hl : la.length ≤ 1048576) (h : ∀ (i : Nat) (x y : Sr), la[i]? = some x → lb[i]? = some y → FC Tryz.prog g ([aS x, aS y] ++ xa) (.bool (p x y))) :
    FC Tryz.prog 132 [sS la, sS lb, .fn (.func g) [] xa] (.bool (eqB p la lb)) := by
  have hcl : closedS (.fn (.func g) [] xa) = true := by simp only [closedS, hxa]; rfl
  refine FC_intro hty Tryz.func132 rfl rfl rfl fun w0 => ?_
  repeat' (first | refine WL_p hty rfl rfl ?_ | refine WL_nil ?_ | refine AC_seq ?_ | refine AC_region ?_ | refine AC_block ?_ | refine AC_skip ?_ | refine AC_condT rfl ?_ | refine AC_condF rfl ?_ | refine AC_exit ?_ | refine AC_ret ?_ | refine WL_m rfl (m_idxN hty rfl rfl rfl (by assumption) rfl) ?_ | refine ends_bool rfl ?_ | refine WL_cmp rfl rfl rfl rfl (fun _ => ?_) (fun _ => ?_) | refine AC_cond rfl (fun _ => ?_) (fun _ => ?_))
  · rename_i hne
    rw [rsS_length, rsS_length] at hne
    exact (eqB_len (fun q => hne (by rw [q]))).symm
  rename_i hne
  rw [rsS_length, rsS_length] at hne
  have hll : la.length = lb.length := by omega
  refine AC_for la.length (fun j => ∀ (i : Nat) (a b : Sr), i < j → la[i]? = some a → lb[i]? = some b → p a b = true) (fun j => ⟨envOf [(1, sS lb), (2, .fn (.func g) [] xa), (15, sS la), (16, .int .i64 ((rsS la).length : Nat)), (17, .int .i64 (j : Nat))], bkOf []⟩)
    (less_sub ⟨⟨_, rfl, .inl ⟨.refl _, rfl⟩⟩, ⟨_, rfl, .inl ⟨.refl _, closedS_keepV hcl⟩⟩, ⟨_, rfl, .inl ⟨.refl _, rfl⟩⟩, ⟨_, rfl, .inl ⟨.refl _, rfl⟩⟩, ⟨_, rfl, .inl ⟨.refl _, rfl⟩⟩, trivial⟩ trivial) (fun i a b hi => absurd hi (Nat.not_lt_zero _)) ?_
  intro j hj hI
  repeat' (first | refine WL_p hty rfl rfl ?_ | refine WL_nil ?_ | refine AC_seq ?_ | refine AC_region ?_ | refine AC_block ?_ | refine AC_skip ?_ | refine AC_condT rfl ?_ | refine AC_condF rfl ?_ | refine AC_exit ?_ | refine AC_ret ?_ | refine WL_m rfl (m_idxN hty rfl rfl rfl (by assumption) rfl) ?_ | refine ends_bool rfl ?_)
  refine WL_cmp rfl rfl rfl rfl (fun hc => ?_) (fun hc => ?_)
  · have hlt : j < la.length := by rw [rsS_length] at hc; omega
    obtain ⟨a, ha, _⟩ := get_of_lt hlt
    obtain ⟨b, hb, _⟩ := get_of_lt (hll ▸ hlt)
    have ra := rsS_get ha
    have rb := rsS_get hb
    repeat' (first | refine WL_callFB rfl (by simp [hxa]) rfl (h j a b ha hb) rfl (fun _ => ?_) (fun _ => ?_) | refine WL_p hty rfl rfl ?_ | refine WL_nil ?_ | refine AC_seq ?_ | refine AC_region ?_ | refine AC_block ?_ | refine AC_skip ?_ | refine AC_condT rfl ?_ | refine AC_condF rfl ?_ | refine AC_exit ?_ | refine AC_ret ?_ | refine WL_m rfl (m_idxN hty rfl rfl rfl (by assumption) rfl) ?_ | refine ends_bool rfl ?_ | refine WL_cmp rfl rfl rfl rfl (fun _ => ?_) (fun _ => ?_) | refine AC_cond rfl (fun _ => ?_) (fun _ => ?_))
    · rename_i hp
      refine ⟨hlt, fun i x y hi hx hy => ?_, (less_sub ⟨⟨_, rfl, .inl ⟨.refl _, rfl⟩⟩, ⟨_, rfl, .inl ⟨.refl _, closedS_keepV hcl⟩⟩, ⟨_, rfl, .inl ⟨.refl _, rfl⟩⟩, ⟨_, rfl, .inl ⟨.refl _, rfl⟩⟩, ⟨_, rfl, see_eq ?_ rfl⟩, trivial⟩ trivial)⟩
      · rcases Nat.lt_or_ge i j with q | q
        · exact hI i x y q hx hy
        · obtain rfl : i = j := by omega
          rw [ha] at hx
          rw [hb] at hy
          obtain rfl := Option.some.inj hx
          obtain rfl := Option.some.inj hy
          exact hp
      · exact congrArg (AV.int .i64) ((wrap_ok (by omega) (by omega)).trans (by omega))
    · exact (eqB_not ha hb ‹_›).symm
  · obtain rfl : j = la.length := by rw [rsS_length] at hc; omega
    repeat' (first | refine WL_p hty rfl rfl ?_ | refine WL_nil ?_ | refine AC_seq ?_ | refine AC_region ?_ | refine AC_block ?_ | refine AC_skip ?_ | refine AC_condT rfl ?_ | refine AC_condF rfl ?_ | refine AC_exit ?_ | refine AC_ret ?_ | refine WL_m rfl (m_idxN hty rfl rfl rfl (by assumption) rfl) ?_ | refine ends_bool rfl ?_ | refine WL_cmp rfl rfl rfl rfl (fun _ => ?_) (fun _ => ?_) | refine AC_cond rfl (fun _ => ?_) (fun _ => ?_))
    exact (eqB_all hll (fun i a b h1 h2 => hI i a b (List.getElem?_eq_some_iff.1 h1).1 h1 h2)).symm

theorem equalFuncC_spec (g : Nat) (xa : List AV) (hxa : xa.all closed0 = true) (p : Cn → Cn → Bool) (la lb : List Cn) (hl : la.length ≤ 1048576) (h : ∀ (i : Nat) (x y : Cn), la[i]? = some x → lb[i]? = some y → FC Tryz.prog g ([aC x, aC y] ++ xa) (.bool (p x y))) :
    FC Tryz.prog 136 [sC la, sC lb, .fn (.func g) [] xa] (.bool (eqB p la lb)) := by
  have hcl : closedS (.fn (.func g) [] xa) = true := by simp only [closedS, hxa]; rfl
  refine FC_intro hty Tryz.func136 rfl rfl rfl fun w0 => ?_
  repeat' (first | refine WL_p hty rfl rfl ?_ | refine WL_nil ?_ | refine AC_seq ?_ | refine AC_region ?_ | refine AC_block ?_ | refine AC_skip ?_ | refine AC_condT rfl ?_ | refine AC_condF rfl ?_ | refine AC_exit ?_ | refine AC_ret ?_ | refine WL_m rfl (m_idxN hty rfl rfl rfl (by assumption) rfl) ?_ | refine ends_bool rfl ?_ | refine WL_cmp rfl rfl rfl rfl (fun _ => ?_) (fun _ => ?_) | refine AC_cond rfl (fun _ => ?_) (fun _ => ?_))
  · rename_i hne
    rw [rsC_length, rsC_length] at hne
    exact (eqB_len (fun q => hne (by rw [q]))).symm
  rename_i hne
  rw [rsC_length, rsC_length] at hne
  have hll : la.length = lb.length := by omega
  refine AC_for la.length (fun j => ∀ (i : Nat) (a b : Cn), i < j → la[i]? = some a → lb[i]? = some b → p a b = true) (fun j => ⟨envOf [(1, sC lb), (2, .fn (.func g) [] xa), (15, sC la), (16, .int .i64 ((rsC la).length : Nat)), (17, .int .i64 (j : Nat))], bkOf []⟩)
    (less_sub ⟨⟨_, rfl, .inl ⟨.refl _, rfl⟩⟩, ⟨_, rfl, .inl ⟨.refl _, closedS_keepV hcl⟩⟩, ⟨_, rfl, .inl ⟨.refl _, rfl⟩⟩, ⟨_, rfl, .inl ⟨.refl _, rfl⟩⟩, ⟨_, rfl, .inl ⟨.refl _, rfl⟩⟩, trivial⟩ trivial) (fun i a b hi => absurd hi (Nat.not_lt_zero _)) ?_
  intro j hj hI
  repeat' (first | refine WL_p hty rfl rfl ?_ | refine WL_nil ?_ | refine AC_seq ?_ | refine AC_region ?_ | refine AC_block ?_ | refine AC_skip ?_ | refine AC_condT rfl ?_ | refine AC_condF rfl ?_ | refine AC_exit ?_ | refine AC_ret ?_ | refine WL_m rfl (m_idxN hty rfl rfl rfl (by assumption) rfl) ?_ | refine ends_bool rfl ?_)
  refine WL_cmp rfl rfl rfl rfl (fun hc => ?_) (fun hc => ?_)
  · have hlt : j < la.length := by rw [rsC_length] at hc; omega
    obtain ⟨a, ha, _⟩ := get_of_lt hlt
    obtain ⟨b, hb, _⟩ := get_of_lt (hll ▸ hlt)
    have ra := rsC_get ha
    have rb := rsC_get hb
    repeat' (first | refine WL_callFB rfl (by simp [hxa]) rfl (h j a b ha hb) rfl (fun _ => ?_) (fun _ => ?_) | refine WL_p hty rfl rfl ?_ | refine WL_nil ?_ | refine AC_seq ?_ | refine AC_region ?_ | refine AC_block ?_ | refine AC_skip ?_ | refine AC_condT rfl ?_ | refine AC_condF rfl ?_ | refine AC_exit ?_ | refine AC_ret ?_ | refine WL_m rfl (m_idxN hty rfl rfl rfl (by assumption) rfl) ?_ | refine ends_bool rfl ?_ | refine WL_cmp rfl rfl rfl rfl (fun _ => ?_) (fun _ => ?_) | refine AC_cond rfl (fun _ => ?_) (fun _ => ?_))
    · rename_i hp
      refine ⟨hlt, fun i x y hi hx hy => ?_, (less_sub ⟨⟨_, rfl, .inl ⟨.refl _, rfl⟩⟩, ⟨_, rfl, .inl ⟨.refl _, closedS_keepV hcl⟩⟩, ⟨_, rfl, .inl ⟨.refl _, rfl⟩⟩, ⟨_, rfl, .inl ⟨.refl _, rfl⟩⟩, ⟨_, rfl, see_eq ?_ rfl⟩, trivial⟩ trivial)⟩
      · rcases Nat.lt_or_ge i j with q | q
        · exact hI i x y q hx hy
        · obtain rfl : i = j := by omega
          rw [ha] at hx
          rw [hb] at hy
          obtain rfl := Option.some.inj hx
          obtain rfl := Option.some.inj hy
          exact hp
      · exact congrArg (AV.int .i64) ((wrap_ok (by omega) (by omega)).trans (by omega))
    · exact (eqB_not ha hb ‹_›).symm
  · obtain rfl : j = la.length := by rw [rsC_length] at hc; omega
    repeat' (first | refine WL_p hty rfl rfl ?_ | refine WL_nil ?_ | refine AC_seq ?_ | refine AC_region ?_ | refine AC_block ?_ | refine AC_skip ?_ | refine AC_condT rfl ?_ | refine AC_condF rfl ?_ | refine AC_exit ?_ | refine AC_ret ?_ | refine WL_m rfl (m_idxN hty rfl rfl rfl (by assumption) rfl) ?_ | refine ends_bool rfl ?_ | refine WL_cmp rfl rfl rfl rfl (fun _ => ?_) (fun _ => ?_) | refine AC_cond rfl (fun _ => ?_) (fun _ => ?_))
    exact (eqB_all hll (fun i a b h1 h2 => hI i a b (List.getElem?_eq_some_iff.1 h1).1 h1 h2)).symm

theorem tequal_all : ∀ n, n ≤ 1048576 → ∀ a b : Tm, a.size ≤ n → FC Tryz.prog 135 [aT a, aT b] (.bool (decide (a = b))) := by
  intro n
  induction n with
  | zero => intro hn a b ha; have := a.size_pos; omega
  | succ n ih =>
  intro hn a b ha
  have ih := ih (by omega)
  have hs := a.size_eq
  have hlen := len_le_sizes a.kids
  have hef := equalFuncT_spec 135 [] rfl (fun x y => decide (x = y)) a.kids b.kids (by omega) (fun i x y hx hy => ih x y (by have := size_le_sizes (List.mem_of_getElem? hx); omega))
  rw [eqB_eq] at hef
  refine FC_intro hty Tryz.func135 rfl rfl rfl fun w0 => ?_
  repeat' (first | refine WL_callB rfl hef rfl (fun _ => ?_) (fun _ => ?_) | refine WL_p hty rfl rfl ?_ | refine WL_nil ?_ | refine AC_seq ?_ | refine AC_region ?_ | refine AC_skip ?_ | refine AC_ret ?_ | refine WL_ung rfl rfl ?_ | refine WL_offT rfl rfl rfl ?_ | refine WL_offF rfl rfl rfl ?_ | refine WL_offU rfl rfl rfl ?_ | refine ends_bool rfl ?_ | refine WL_cmp rfl rfl rfl rfl (fun _ => ?_) (fun _ => ?_))
  · rename_i h1 h2 h3
    exact (decide_eq_true (Tm.ext h1 h2 (of_decide_eq_true h3))).symm
  · rename_i h3
    exact (decide_eq_false fun q => of_decide_eq_false h3 (by rw [q])).symm
  · rename_i h3
    exact (decide_eq_false fun q => h3 (by rw [q])).symm
  · rename_i h3
    exact (decide_eq_false fun q => h3 (by rw [q])).symm
theorem tequal_spec (a b : Tm) (h : a.size ≤ 1048576) : FC Tryz.prog 135 [aT a, aT b] (.bool (decide (a = b))) := tequal_all 1048576 (by omega) a b h

theorem sterms_spec (a b : List Tm) (h : sizes a ≤ 1048576) : FC Tryz.prog 138 [sT a, sT b] (.bool (decide (a = b))) := by
  have hlen := len_le_sizes a
  have hef := equalFuncT_spec 135 [] rfl (fun x y => decide (x = y)) a b (by omega) (fun i x y hx hy => tequal_spec x y (by have := size_le_sizes (List.mem_of_getElem? hx); omega))
  rw [eqB_eq] at hef
  refine FC_intro hty Tryz.func138 rfl rfl rfl fun w0 => ?_
  repeat' (first | refine WL_callB rfl hef rfl (fun _ => ?_) (fun _ => ?_) | refine WL_p hty rfl rfl ?_ | refine WL_nil ?_ | refine AC_seq ?_ | refine AC_region ?_ | refine AC_skip ?_ | refine AC_ret ?_ | refine ends_bool rfl ?_)
  all_goals (symm; assumption)

theorem sargs1_spec (a b : Ar) (ha : a.size ≤ 1048576) : FC Tryz.prog 191 [aA a, aA b] (.bool (decide (a = b))) := by
  unfold Ar.size at ha
  refine FC_intro hty Tryz.func191 rfl rfl rfl fun w0 => ?_
  repeat' (first | refine WL_callB rfl (sterms_spec _ _ (by omega)) rfl (fun _ => ?_) (fun _ => ?_) | refine WL_callB rfl (tequal_spec _ _ (by omega)) rfl (fun _ => ?_) (fun _ => ?_) | refine WL_p hty rfl rfl ?_ | refine WL_nil ?_ | refine AC_seq ?_ | refine AC_region ?_ | refine AC_skip ?_ | refine AC_ret ?_ | refine WL_ung rfl rfl ?_ | refine WL_offT rfl rfl rfl ?_ | refine WL_offF rfl rfl rfl ?_ | refine WL_offU rfl rfl rfl ?_ | refine ends_bool rfl ?_ | refine WL_cmp rfl rfl rfl rfl (fun _ => ?_) (fun _ => ?_) | refine WL_eqB hty hbool rfl rfl rfl (fun _ => ?_) (fun _ => ?_))
  all_goals (cases a; cases b; simp_all)
theorem sargs_spec (a b : List Ar) (h : sizesA a ≤ 1048576) : FC Tryz.prog 134 [sA a, sA b] (.bool (decide (a = b))) := by
  have hlen := len_le_sizesA a
  have hef := equalFuncA_spec 191 [] rfl (fun x y => decide (x = y)) a b (by omega) (fun i x y hx hy => sargs1_spec x y (by have := size_le_sizesA (List.mem_of_getElem? hx); omega))
  rw [eqB_eq] at hef
  refine FC_intro hty Tryz.func134 rfl rfl rfl fun w0 => ?_
  repeat' (first | refine WL_callB rfl hef rfl (fun _ => ?_) (fun _ => ?_) | refine WL_p hty rfl rfl ?_ | refine WL_nil ?_ | refine AC_seq ?_ | refine AC_region ?_ | refine AC_skip ?_ | refine AC_ret ?_ | refine ends_bool rfl ?_)
  all_goals (symm; assumption)
theorem same1_spec (a b : Sr) (ha : a.size ≤ 1048576) : FC Tryz.prog 133 [aS a, aS b] (.bool (decide (a = b))) := by
  unfold Sr.size at ha
  refine FC_intro hty Tryz.func133 rfl rfl rfl fun w0 => ?_
  repeat' (first | refine WL_callB rfl (sargs_spec _ _ (by omega)) rfl (fun _ => ?_) (fun _ => ?_) | refine WL_callB rfl (tequal_spec _ _ (by omega)) rfl (fun _ => ?_) (fun _ => ?_) | refine WL_p hty rfl rfl ?_ | refine WL_nil ?_ | refine AC_seq ?_ | refine AC_region ?_ | refine AC_skip ?_ | refine AC_ret ?_ | refine WL_ung rfl rfl ?_ | refine WL_offT rfl rfl rfl ?_ | refine WL_offF rfl rfl rfl ?_ | refine WL_offU rfl rfl rfl ?_ | refine ends_bool rfl ?_ | refine WL_cmp rfl rfl rfl rfl (fun _ => ?_) (fun _ => ?_) | refine WL_eqB hty hbool rfl rfl rfl (fun _ => ?_) (fun _ => ?_))
  all_goals (cases a; cases b; simp_all)
theorem same2_spec (a b : Cn) (ha : a.size ≤ 1048576) : FC Tryz.prog 137 [aC a, aC b] (.bool (decide (a = b))) := by
  unfold Cn.size at ha
  refine FC_intro hty Tryz.func137 rfl rfl rfl fun w0 => ?_
  repeat' (first | refine WL_callB rfl (sargs_spec _ _ (by omega)) rfl (fun _ => ?_) (fun _ => ?_) | refine WL_callB rfl (sterms_spec _ _ (by omega)) rfl (fun _ => ?_) (fun _ => ?_) | refine WL_callB rfl (tequal_spec _ _ (by omega)) rfl (fun _ => ?_) (fun _ => ?_) | refine WL_p hty rfl rfl ?_ | refine WL_nil ?_ | refine AC_seq ?_ | refine AC_region ?_ | refine AC_skip ?_ | refine AC_ret ?_ | refine WL_ung rfl rfl ?_ | refine WL_offT rfl rfl rfl ?_ | refine WL_offF rfl rfl rfl ?_ | refine WL_offU rfl rfl rfl ?_ | refine ends_bool rfl ?_ | refine WL_cmp rfl rfl rfl rfl (fun _ => ?_) (fun _ => ?_))
  all_goals (cases a; cases b; simp_all)
theorem same_spec (a b : Bl) (h : a.size ≤ 1048576) : FC Tryz.prog 77 [aB a, aB b] (.bool (decide (a = b))) := by
  unfold Bl.size at h
  have hl1 := len_le_sizesS a.sorts
  have hl2 := len_le_sizesC a.cons
  have h1 := equalFuncS_spec 133 [] rfl (fun x y => decide (x = y)) a.sorts b.sorts (by omega) (fun i x y hx hy => same1_spec x y (by have := size_le_sizesS (List.mem_of_getElem? hx); omega))
  have h2 := equalFuncC_spec 137 [] rfl (fun x y => decide (x = y)) a.cons b.cons (by omega) (fun i x y hx hy => same2_spec x y (by have := size_le_sizesC (List.mem_of_getElem? hx); omega))
  rw [eqB_eq] at h1 h2
  refine FC_intro hty Tryz.func77 rfl rfl rfl fun w0 => ?_
  repeat' (first | refine WL_callB rfl h1 rfl (fun _ => ?_) (fun _ => ?_) | refine WL_callB rfl h2 rfl (fun _ => ?_) (fun _ => ?_) | refine WL_p hty rfl rfl ?_ | refine WL_nil ?_ | refine AC_seq ?_ | refine AC_region ?_ | refine AC_skip ?_ | refine AC_ret ?_ | refine WL_ung rfl rfl ?_ | refine WL_offT rfl rfl rfl ?_ | refine WL_offF rfl rfl rfl ?_ | refine WL_offU rfl rfl rfl ?_ | refine ends_bool rfl ?_ | refine WL_cmp rfl rfl rfl rfl (fun _ => ?_) (fun _ => ?_))
  all_goals (cases a; cases b; simp_all)

end Go.Proofs.YtoknnfhgoikpiaaGreat

/-
  The program's word on a block's shape: terms, arguments.
-/
namespace Go.Proofs.YtoknnfhgoikpiaaGreat
set_option linter.unusedSimpArgs false
set_option linter.unusedVariables false
open Go.Aw Go.RowKit
def tbShapeP243_3 : List (Nat × List Nat) := [(0, []), (1, [0]), (2, [0, 1]), (3, [0, 1, 2]), (4, [0, 1, 2, 3]), (5, [0, 1, 2, 3, 4]), (6, [0, 1, 2, 3, 4, 5]), (7, [0, 1, 2, 3, 4, 5, 6]), (8, [0, 1, 2, 3, 4, 5, 6, 7]), (9, [0, 1, 2, 3, 4, 5, 6, 7, 8]), (10, [0, 1, 2, 3, 4, 5, 6, 7, 8, 9]), (11, [0, 1, 2, 3, 4, 5, 6, 7, 8, 9, 10]), (12, [0, 1, 2, 3, 4, 5, 6, 7, 8, 9, 10, 11]), (13, [0, 1, 2, 3, 4, 5, 6, 7, 8, 9, 10, 11, 12]), (14, [0, 1, 2, 3, 4, 5, 6, 7, 8, 9, 10, 11, 12, 13]), (15, [0, 1, 2, 3, 4, 5, 6, 7, 8, 9, 10, 11, 12, 13, 14]), (16, [0, 1, 2, 3, 4, 5, 6, 7, 8, 9, 10, 11, 12, 13, 14, 15]), (17, [0, 1, 2, 3, 4, 5, 6, 7, 8, 9, 10, 11, 12, 13, 14, 15, 16]), (18, [0, 1, 2, 3, 4, 5, 6, 7, 8, 9, 10, 11, 12, 13, 14, 15]), (19, [0, 1, 2, 3, 4, 5, 6, 7, 8, 9, 10, 11, 12, 13, 14, 15, 18]), (20, [0, 1, 2, 3, 4, 5, 6, 7, 8, 9, 10, 11, 12, 13, 14, 15, 18, 19]), (21, [0, 1, 2, 3, 4, 5, 6, 7, 8, 9, 10, 11, 12, 13, 14, 15, 16, 17, 18, 19, 20]), (22, [0, 1, 2, 3, 4, 5, 6, 7, 8, 9, 10, 11, 12, 13, 14, 15, 16, 17, 18, 19, 20, 21]), (23, [0, 1, 2, 3, 4, 5, 6, 7, 8, 9, 10, 11, 12, 13, 14, 15, 16, 17, 18, 19, 20, 21, 22]), (24, [0, 1, 2, 3, 4, 5, 6, 7, 8, 9, 10, 11, 12, 13, 14, 15, 16, 17, 18, 19, 20, 21, 22, 23]), (25, [0, 1, 2, 3, 4, 5, 6, 7, 8, 9, 10, 11, 12, 13, 14, 15, 16, 17, 18, 19, 20, 21, 22, 23, 24]), (26, [0, 1, 2, 3, 4, 5, 6, 7, 8, 9, 10, 11, 12, 13, 14, 15, 16, 17, 18, 19, 20, 21, 22, 23, 24, 25]), (27, [0, 1, 2, 3, 4, 5, 6, 7, 8, 9, 10, 11, 12, 13, 14, 15, 16, 17, 18, 19, 20, 21, 22, 23]), (28, [0, 1, 2, 3, 4, 5, 6, 7, 8, 9, 10, 11, 12, 13, 14, 15, 16, 17, 18, 19, 20, 21, 22, 23, 27]), (29, [0, 1, 2, 3, 4, 5, 6, 7, 8, 9, 10, 11, 12, 13, 14, 15, 16, 17, 18, 19, 20, 21, 22, 23]), (30, [0, 1, 2, 3, 4, 5, 6, 7, 8, 9, 10, 11, 12, 13, 14, 15, 16, 17, 18, 19, 20, 21, 22, 23, 29]), (31, [0, 1, 2, 3, 4, 5, 6, 7, 8, 9, 10, 11, 12, 13, 14, 15, 16, 17, 18, 19, 20, 21, 22, 23, 27, 28, 29, 30]), (32, [0, 1, 2, 3, 4, 5, 6, 7, 8, 9, 10, 11, 12, 13, 14, 15, 16, 17, 18, 19, 20, 21, 22, 23, 27, 28, 29, 30, 31]), (33, [0, 1, 2, 3, 4, 5, 6, 7, 8, 9, 10, 11, 12, 13, 14, 15, 16, 17, 18, 19, 20, 21, 22, 23, 27, 28, 29, 30, 31, 32]), (34, [0, 1, 2, 3, 4, 5, 6, 7, 8, 9, 10, 11, 12, 13, 14, 15, 16, 17, 18, 19, 20, 21, 22, 23, 27, 28, 29, 30, 31, 32, 33]), (35, [0, 1, 2, 3, 4, 5, 6, 7, 8, 9, 10, 11, 12, 13, 14, 15, 16, 17, 18, 19, 20, 21, 22, 23, 24, 25, 26, 27, 28, 29, 30, 31, 32, 33, 34]), (36, [0, 1, 2, 3, 4, 5, 6, 7, 8, 9, 10, 11, 12, 13, 14, 15, 16, 17, 18, 19, 20, 21, 22, 23, 24, 25, 26, 27, 28, 29, 30, 31, 32, 33, 34, 35])]
attribute [local irreducible] WL AC WD WE MStep OkOp

theorem sin_spec (t : Tm) (v : Int) (h : t.size ≤ 1048576) : FC Tryz.prog 244 [aT t, .int .i64 v] (.bool (openT t v)) := by
  refine FC_intro hty Tryz.func244 rfl rfl rfl fun w0 => ?_
  repeat' (first | refine WL_call 0 rfl (tscope_spec t v 65536 h) rfl rfl rfl ?_ | refine WL_p hty rfl rfl ?_ | refine WL_nil ?_ | refine AC_seq ?_ | refine AC_region ?_ | refine AC_skip ?_ | refine AC_ret ?_ | refine ends_bool rfl ?_)
  all_goals rfl

theorem sall1_spec (t : Tm) (v : Int) (h : t.size ≤ 1048576) : FC Tryz.prog 246 [aT t, .eptr [.int .i64 v] 0] (.bool (!openT t v)) := by
  refine FC_intro hty Tryz.func246 rfl rfl rfl fun w0 => ?_
  repeat' (first | refine WL_callB rfl (sin_spec t v h) rfl (fun _ => ?_) (fun _ => ?_) | refine WL_p hty rfl rfl ?_ | refine WL_nil ?_ | refine AC_seq ?_ | refine AC_region ?_ | refine AC_skip ?_ | refine AC_ret ?_ | refine ends_bool rfl ?_)
  all_goals simp [*]

theorem any_not_all {α : Type} (p : α → Bool) (l : List α) : (!(l.any fun t => !p t)) = l.all p := by rw [all_not_any]
theorem sall_spec (l : List Tm) (v : Int) (h : sizes l ≤ 1048576) : FC Tryz.prog 210 [sT l, .int .i64 v] (.bool (l.all fun t => openT t v)) := by
  have hcf := containsFunc_spec 246 [.eptr [.int .i64 v] 0] rfl (fun t => !openT t v) l (by omega) (fun t ht => sall1_spec t v (by have := size_le_sizes ht; omega))
  refine FC_intro hty Tryz.func210 rfl rfl rfl fun w0 => ?_
  repeat' (first | refine WL_less (less_freezeBox 3 rfl rfl) ?_ | refine WL_m rfl (m_makeFunc rfl rfl rfl) ?_ | refine WL_callB rfl hcf rfl (fun _ => ?_) (fun _ => ?_) | refine WL_p hty rfl rfl ?_ | refine WL_nil ?_ | refine AC_seq ?_ | refine AC_region ?_ | refine AC_skip ?_ | refine AC_ret ?_ | refine ends_bool rfl ?_)
  all_goals (rename_i hq; rw [← any_not_all, hq])

theorem slevel_spec (n : Int) : FC Tryz.prog 153 [.int .i64 n] (.bool (inR n 0 6)) := by
  refine FC_intro hty Tryz.func153 rfl rfl rfl fun w0 => ?_
  repeat' (first | refine WL_p hty rfl rfl ?_ | refine WL_nil ?_ | refine AC_seq ?_ | refine AC_region ?_ | refine AC_skip ?_ | refine AC_ret ?_ | refine WL_ung rfl rfl ?_ | refine WL_offT rfl rfl rfl ?_ | refine WL_offF rfl rfl rfl ?_ | refine WL_offU rfl rfl rfl ?_ | refine ends_bool rfl ?_ | refine WL_cmp rfl rfl rfl rfl (fun _ => ?_) (fun _ => ?_))
  all_goals (simp_all [inR] <;> (try intro) <;> omega)

theorem smaybe_spec (d : Bool) (t : Tm) (v : Int) (h : t.size ≤ 1048576) : FC Tryz.prog 206 [.bool d, aT t, .int .i64 v] (.bool (maybeB d t v)) := by
  cases d
  · refine FC_intro hty Tryz.func206 rfl rfl rfl fun w0 => ?_
    repeat' (first | refine WL_call 0 rfl (tnone_spec t) rfl rfl rfl ?_ | refine WL_p hty rfl rfl ?_ | refine WL_nil ?_ | refine AC_seq ?_ | refine AC_region ?_ | refine AC_skip ?_ | refine AC_condT rfl ?_ | refine AC_condF rfl ?_ | refine AC_ret ?_ | refine ends_bool rfl ?_ | refine AC_cond rfl (fun _ => ?_) (fun _ => ?_))
    all_goals rfl
  · refine FC_intro hty Tryz.func206 rfl rfl rfl fun w0 => ?_
    repeat' (first | refine WL_call 0 rfl (sin_spec t v h) rfl rfl rfl ?_ | refine WL_p hty rfl rfl ?_ | refine WL_nil ?_ | refine AC_seq ?_ | refine AC_region ?_ | refine AC_skip ?_ | refine AC_condT rfl ?_ | refine AC_condF rfl ?_ | refine AC_ret ?_ | refine ends_bool rfl ?_ | refine AC_cond rfl (fun _ => ?_) (fun _ => ?_))
    all_goals rfl

set_option maxRecDepth 4000 in
set_option maxHeartbeats 4000000 in
theorem sarg_spec (b : Bl) (a : Ar) (i : Int) (hb : b.size ≤ 1048576) (ha : a.size ≤ 1048576) (hi0 : 0 ≤ i) (hi1 : i ≤ 1048576) : FC Tryz.prog 243 [aB b, aA a, .int .i64 i] (.bool (argB b a i)) := by
  have hsl := len_le_sizesS b.sorts
  unfold Bl.size at hb
  unfold Ar.size at ha
  have hd := len_le_sizes a.dom
  have hx := len_le_sizes a.idx
  obtain ⟨rc, tt, dd, so, ix⟩ := a
  simp only at ha hd hx
  have hwd : IntKind.i64.wrap (((rsT dd).length : Int) + (rsT ix).length) = (dd.length : Int) + ix.length := by
    rw [rsT_length, rsT_length]; exact wrap_ok (n := (dd.length : Int) + ix.length) (by omega) (by omega)
  refine FC_intro hty Tryz.func243 rfl rfl rfl fun w0 => ?_
  cases rc
  · repeat' (first | refine WL_callB rfl (sin_spec tt i (by omega)) rfl (fun _ => ?_) (fun _ => ?_) | refine WL_p hty rfl rfl ?_ | refine WL_nil ?_ | refine AC_seq ?_ | refine AC_region ?_ | refine AC_block ?_ | refine AC_skip ?_ | refine AC_condT rfl ?_ | refine AC_condF rfl ?_ | refine AC_exit ?_ | refine AC_ret ?_ | refine WL_ung rfl rfl ?_ | refine WL_offT rfl rfl rfl ?_ | refine WL_offF rfl rfl rfl ?_ | refine WL_offU rfl rfl rfl ?_ | refine WL_m rfl (m_idxN hty rfl rfl rfl (by assumption) rfl) ?_ | refine ends_bool rfl ?_ | refine WL_cmp rfl rfl rfl rfl (fun _ => ?_) (fun _ => ?_) | refine AC_cond rfl (fun _ => ?_) (fun _ => ?_))
    all_goals show _ = (openT tt i && (decide ((dd.length : Int) + ix.length = 0) && decide (so = 0)))
    · rename_i h1 h2 h3
      rw [h1, decide_eq_true (hwd.symm.trans h2), decide_eq_true h3]; rfl
    · rename_i h1 h2 h3
      rw [h1, decide_eq_true (hwd.symm.trans h2), decide_eq_false h3]; rfl
    · rename_i h1 h2
      rw [h1, decide_eq_false (fun q => h2 (hwd.trans q))]; rfl
    · rename_i h1
      rw [h1]; rfl
  have hae : argB b ⟨true, tt, dd, so, ix⟩ i = ((decide (tt = zT) && (decide (dd.length ≤ 12) && (inR so 0 ((b.sorts.length : Int) - 1) && decide (ix.length = idxN b so)))) && (openSeq i dd && ix.all fun t => openT t (i + dd.length))) := rfl
  by_cases hin : inR so 0 ((b.sorts.length : Int) - 1) = true
  · have hin2 := hin
    simp only [inR, Bool.and_eq_true, decide_eq_true_eq] at hin2
    obtain ⟨s, hs, hsm⟩ := get_of_lt (show so.toNat < b.sorts.length by omega)
    have rs := rsS_get hs
    have hix : idxN b so = s.idx.length := by unfold idxN; rw [hs]
    have hn1 : ¬ so < 0 := by omega
    have hn2 : ¬ ((rsS b.sorts).length : Int) ≤ so := by rw [rsS_length]; omega
    repeat' (first | exact absurd (by assumption) hn1 | exact absurd (by assumption) hn2 | refine AC_drawnE (id := 3) tbShapeP243_3 rfl (by kernel_rfl) ?_ | refine WE_callB rfl (tnone_spec _) rfl (fun _ => ?_) (fun _ => ?_) | refine WE_m rfl (m_idxL hty rfl rfl rfl hin2.1 rs rfl) ?_ | refine WE_cons (.inl ⟨rfl, stepE_ok hty rfl rfl⟩) ?_ | refine WE_cons (.inl ⟨rfl, m_idxN hty rfl rfl rfl (by assumption) rfl⟩) ?_ | refine WE_ung rfl rfl ?_ | refine WE_offT rfl rfl rfl ?_ | refine WE_offF rfl rfl rfl ?_ | refine WE_offU rfl rfl rfl ?_ | refine WE_nil ⟨by kernel_rfl, ?_⟩ | refine WL_p hty rfl rfl ?_ | refine WL_nil ?_ | refine AC_seq ?_ | refine AC_region ?_ | refine AC_block ?_ | refine AC_skip ?_ | refine AC_condT rfl ?_ | refine AC_condF rfl ?_ | refine AC_exit ?_ | refine AC_ret ?_ | refine WL_ung rfl rfl ?_ | refine WL_offT rfl rfl rfl ?_ | refine WL_offF rfl rfl rfl ?_ | refine WL_offU rfl rfl rfl ?_ | refine WL_m rfl (m_idxN hty rfl rfl rfl (by assumption) rfl) ?_ | refine ends_bool rfl ?_ | refine WL_cmp rfl rfl rfl rfl (fun _ => ?_) (fun _ => ?_) | refine AC_cond rfl (fun _ => ?_) (fun _ => ?_) | refine WE_cmp rfl rfl rfl rfl (fun _ => ?_) (fun _ => ?_))
    · rename_i h1 h2
      have h2 : 12 < ((rsT dd).length : Int) := h2
      rw [rsT_length] at h2
      rw [hae, show decide (dd.length ≤ 12) = false from decide_eq_false (by omega)]; simp
    · rename_i h1 h2 h3
      have h3 : ((rsT ix).length : Int) ≠ (rsA s.idx).length := by assumption
      rw [rsT_length, rsA_length] at h3
      rw [hae, hix, show decide (ix.length = s.idx.length) = false from decide_eq_false (by omega)]; simp
    · have h1 : decide (tt = zT) = true := by assumption
      have h2 : ¬ 12 < ((rsT dd).length : Int) := by assumption
      have h3 : ¬ ((rsT ix).length : Int) ≠ (rsA s.idx).length := by assumption
      rw [rsT_length] at h2
      rw [rsT_length, rsA_length] at h3
      rw [h1, hin, show decide (dd.length ≤ 12) = true from decide_eq_true (by omega), hix, show decide (ix.length = s.idx.length) = true from decide_eq_true (by omega)] at hae
      simp only [Bool.true_and] at hae
      clear h1 rs
      rw [hae]
      refine AC_for dd.length (fun j => openSeq i (dd.take j) = true) (fun j => ⟨envOf [(2, .int .i64 i), (3, .ptr 3 0), (4, .ptr 4 0), (69, sT dd), (70, .int .i64 ((rsT dd).length : Nat)), (71, .int .i64 (j : Nat))],
        bkOf [(3, .box (cB b)), (4, .box (cA ⟨true, tt, dd, so, ix⟩))]⟩) (less_sub ⟨⟨_, rfl, .inl ⟨.refl _, rfl⟩⟩, ⟨_, rfl, .inl ⟨.refl _, rfl⟩⟩, ⟨_, rfl, .inl ⟨.refl _, rfl⟩⟩, ⟨_, rfl, .inl ⟨.refl _, rfl⟩⟩, ⟨_, rfl, .inl ⟨.refl _, rfl⟩⟩, ⟨_, rfl, .inl ⟨.refl _, rfl⟩⟩, trivial⟩ ⟨⟨⟨_, rfl, .refl _⟩, rfl⟩, ⟨⟨_, rfl, .refl _⟩, rfl⟩, trivial⟩) rfl ?_
      intro j hj hI
      repeat' (first | refine WL_p hty rfl rfl ?_ | refine WL_nil ?_ | refine AC_seq ?_ | refine AC_region ?_ | refine AC_block ?_ | refine AC_skip ?_ | refine AC_condT rfl ?_ | refine AC_condF rfl ?_ | refine AC_exit ?_ | refine AC_ret ?_ | refine WL_ung rfl rfl ?_ | refine WL_offT rfl rfl rfl ?_ | refine WL_offF rfl rfl rfl ?_ | refine WL_offU rfl rfl rfl ?_ | refine WL_m rfl (m_idxN hty rfl rfl rfl (by assumption) rfl) ?_ | refine ends_bool rfl ?_)
      refine WL_cmp rfl rfl rfl rfl (fun hc => ?_) (fun hc => ?_)
      · have hc : (j : Int) < ((rsT dd).length : Int) := hc
        have hlt : j < dd.length := by rw [rsT_length] at hc; omega
        obtain ⟨k, hk, hmem⟩ := get_of_lt hlt
        have hks := size_le_sizes hmem
        have rk := rsT_get hk
        have hwr : IntKind.i64.wrap (i + (j : Nat)) = i + (j : Nat) := wrap_ok (n := i + (j : Nat)) (by omega) (by omega)
        have hop := sin_spec k (IntKind.i64.wrap (i + (j : Nat))) (by omega)
        repeat' (first | refine WL_callB rfl hop rfl (fun _ => ?_) (fun _ => ?_) | refine WL_p hty rfl rfl ?_ | refine WL_nil ?_ | refine AC_seq ?_ | refine AC_region ?_ | refine AC_block ?_ | refine AC_skip ?_ | refine AC_condT rfl ?_ | refine AC_condF rfl ?_ | refine AC_exit ?_ | refine AC_ret ?_ | refine WL_ung rfl rfl ?_ | refine WL_offT rfl rfl rfl ?_ | refine WL_offF rfl rfl rfl ?_ | refine WL_offU rfl rfl rfl ?_ | refine WL_m rfl (m_idxN hty rfl rfl rfl (by assumption) rfl) ?_ | refine ends_bool rfl ?_ | refine WL_cmp rfl rfl rfl rfl (fun _ => ?_) (fun _ => ?_) | refine AC_cond rfl (fun _ => ?_) (fun _ => ?_))
        all_goals (rename_i hb; rw [hwr] at hb)
        · refine ⟨hlt, by rw [openSeq_take_succ hk, hI, hb]; rfl, (less_sub ⟨⟨_, rfl, .inl ⟨.refl _, rfl⟩⟩, ⟨_, rfl, .inl ⟨.refl _, rfl⟩⟩, ⟨_, rfl, .inl ⟨.refl _, rfl⟩⟩, ⟨_, rfl, .inl ⟨.refl _, rfl⟩⟩, ⟨_, rfl, .inl ⟨.refl _, rfl⟩⟩, ⟨_, rfl, see_eq ?_ rfl⟩, trivial⟩ ⟨⟨⟨_, rfl, .refl _⟩, rfl⟩, ⟨⟨_, rfl, .refl _⟩, rfl⟩, trivial⟩)⟩
          exact congrArg (AV.int .i64) ((wrap_ok (by omega) (by omega)).trans (by omega))
        · rw [openSeq_split hk, hb]; simp
      · have hc : ¬ (j : Int) < ((rsT dd).length : Int) := hc
        obtain rfl : j = dd.length := by rw [rsT_length] at hc; omega
        rw [List.take_length] at hI
        rw [hI, Bool.true_and]
        have hwr : IntKind.i64.wrap (i + ((rsT dd).length : Nat)) = i + (dd.length : Nat) := by rw [rsT_length]; exact wrap_ok (n := i + (dd.length : Nat)) (by omega) (by omega)
        have hal := sall_spec ix (IntKind.i64.wrap (i + ((rsT dd).length : Nat))) (by omega)
        repeat' (first | refine WL_call 0 rfl hal rfl rfl rfl ?_ | refine WL_p hty rfl rfl ?_ | refine WL_nil ?_ | refine AC_seq ?_ | refine AC_region ?_ | refine AC_block ?_ | refine AC_skip ?_ | refine AC_condT rfl ?_ | refine AC_condF rfl ?_ | refine AC_exit ?_ | refine AC_ret ?_ | refine WL_ung rfl rfl ?_ | refine WL_offT rfl rfl rfl ?_ | refine WL_offF rfl rfl rfl ?_ | refine WL_offU rfl rfl rfl ?_ | refine WL_m rfl (m_idxN hty rfl rfl rfl (by assumption) rfl) ?_ | refine ends_bool rfl ?_ | refine WL_cmp rfl rfl rfl rfl (fun _ => ?_) (fun _ => ?_) | refine AC_cond rfl (fun _ => ?_) (fun _ => ?_))
        rw [hwr]
    · rename_i h1
      have h1 : decide (tt = zT) = false := h1
      rw [hae, h1]; rfl
  · repeat' (first | refine AC_drawnE (id := 3) tbShapeP243_3 rfl (by kernel_rfl) ?_ | refine WE_callB rfl (tnone_spec _) rfl (fun _ => ?_) (fun _ => ?_) | refine WE_cons (.inl ⟨rfl, stepE_ok hty rfl rfl⟩) ?_ | refine WE_cons (.inl ⟨rfl, m_idxN hty rfl rfl rfl (by assumption) rfl⟩) ?_ | refine WE_ung rfl rfl ?_ | refine WE_offT rfl rfl rfl ?_ | refine WE_offF rfl rfl rfl ?_ | refine WE_offU rfl rfl rfl ?_ | refine WE_nil ⟨by kernel_rfl, ?_⟩ | refine WL_p hty rfl rfl ?_ | refine WL_nil ?_ | refine AC_seq ?_ | refine AC_region ?_ | refine AC_block ?_ | refine AC_skip ?_ | refine AC_condT rfl ?_ | refine AC_condF rfl ?_ | refine AC_exit ?_ | refine AC_ret ?_ | refine WL_ung rfl rfl ?_ | refine WL_offT rfl rfl rfl ?_ | refine WL_offF rfl rfl rfl ?_ | refine WL_offU rfl rfl rfl ?_ | refine WL_m rfl (m_idxN hty rfl rfl rfl (by assumption) rfl) ?_ | refine ends_bool rfl ?_ | refine WL_cmp rfl rfl rfl rfl (fun _ => ?_) (fun _ => ?_) | refine AC_cond rfl (fun _ => ?_) (fun _ => ?_) | refine WE_cmp rfl rfl rfl rfl (fun _ => ?_) (fun _ => ?_))
    all_goals first
      | (rw [hae, Bool.eq_false_iff.2 hin]; simp; done)
      | (dsimp only at *; exfalso; apply hin; simp only [inR, Bool.and_eq_true, decide_eq_true_eq]; rw [rsS_length] at *; omega)

theorem srow_spec (b : Bl) (l : List Ar) (hb : b.size ≤ 1048576) (hl : sizesA l ≤ 1048576) : FC Tryz.prog 205 [aB b, sA l] (.bool (rowB b l)) := by
  have hlen := len_le_sizesA l
  refine FC_intro hty Tryz.func205 rfl rfl rfl fun w0 => ?_
  repeat' (first | refine WL_p hty rfl rfl ?_ | refine WL_nil ?_ | refine AC_seq ?_ | refine AC_region ?_ | refine AC_block ?_ | refine AC_skip ?_ | refine AC_condT rfl ?_ | refine AC_condF rfl ?_ | refine AC_exit ?_ | refine AC_ret ?_ | refine WL_m rfl (m_idxN hty rfl rfl rfl (by assumption) rfl) ?_ | refine ends_bool rfl ?_ | refine WL_cmp rfl rfl rfl rfl (fun _ => ?_) (fun _ => ?_) | refine AC_cond rfl (fun _ => ?_) (fun _ => ?_))
  · rename_i h
    rw [rsA_length] at h
    rw [rowB, decide_eq_false (by omega)]; rfl
  rename_i h
  rw [rsA_length] at h
  have hr : rowB b l = argSeq b 0 l := by rw [rowB, decide_eq_true (by omega)]; rfl
  refine AC_for l.length (fun j => argSeq b 0 (l.take j) = true) (fun j => ⟨envOf [(2, .ptr 2 0), (10, sA l), (11, .int .i64 ((rsA l).length : Nat)), (12, .int .i64 (j : Nat))], bkOf [(2, .box (cB b))]⟩) (less_sub ⟨⟨_, rfl, .inl ⟨.refl _, rfl⟩⟩, ⟨_, rfl, .inl ⟨.refl _, rfl⟩⟩, ⟨_, rfl, .inl ⟨.refl _, rfl⟩⟩, ⟨_, rfl, .inl ⟨.refl _, rfl⟩⟩, trivial⟩ ⟨⟨⟨_, rfl, .refl _⟩, rfl⟩, trivial⟩) rfl ?_
  intro j hj hI
  repeat' (first | refine WL_p hty rfl rfl ?_ | refine WL_nil ?_ | refine AC_seq ?_ | refine AC_region ?_ | refine AC_block ?_ | refine AC_skip ?_ | refine AC_condT rfl ?_ | refine AC_condF rfl ?_ | refine AC_exit ?_ | refine AC_ret ?_ | refine WL_m rfl (m_idxN hty rfl rfl rfl (by assumption) rfl) ?_ | refine ends_bool rfl ?_)
  refine WL_cmp rfl rfl rfl rfl (fun hc => ?_) (fun hc => ?_)
  · have hlt : j < l.length := by rw [rsA_length] at hc; omega
    obtain ⟨k, hk, hmem⟩ := get_of_lt hlt
    have hks := size_le_sizesA hmem
    have rk := rsA_get hk
    repeat' (first | refine WL_callB rfl (sarg_spec b k (j : Nat) hb (by omega) (by omega) (by omega)) rfl (fun _ => ?_) (fun _ => ?_) | refine WL_p hty rfl rfl ?_ | refine WL_nil ?_ | refine AC_seq ?_ | refine AC_region ?_ | refine AC_block ?_ | refine AC_skip ?_ | refine AC_condT rfl ?_ | refine AC_condF rfl ?_ | refine AC_exit ?_ | refine AC_ret ?_ | refine WL_m rfl (m_idxN hty rfl rfl rfl (by assumption) rfl) ?_ | refine ends_bool rfl ?_ | refine WL_cmp rfl rfl rfl rfl (fun _ => ?_) (fun _ => ?_) | refine AC_cond rfl (fun _ => ?_) (fun _ => ?_))
    · refine ⟨hlt, by rw [argSeq_take_succ hk, hI, Int.zero_add]; simp [*], (less_sub ⟨⟨_, rfl, .inl ⟨.refl _, rfl⟩⟩, ⟨_, rfl, .inl ⟨.refl _, rfl⟩⟩, ⟨_, rfl, .inl ⟨.refl _, rfl⟩⟩, ⟨_, rfl, see_eq ?_ rfl⟩, trivial⟩ ⟨⟨⟨_, rfl, .refl _⟩, rfl⟩, trivial⟩)⟩
      exact congrArg (AV.int .i64) ((wrap_ok (by omega) (by omega)).trans (by omega))
    · rw [hr, argSeq_split hk, Int.zero_add]; simp [*]
  · obtain rfl : j = l.length := by rw [rsA_length] at hc; omega
    rw [List.take_length] at hI
    repeat' (first | refine WL_p hty rfl rfl ?_ | refine WL_nil ?_ | refine AC_seq ?_ | refine AC_region ?_ | refine AC_block ?_ | refine AC_skip ?_ | refine AC_condT rfl ?_ | refine AC_condF rfl ?_ | refine AC_exit ?_ | refine AC_ret ?_ | refine WL_m rfl (m_idxN hty rfl rfl rfl (by assumption) rfl) ?_ | refine ends_bool rfl ?_ | refine WL_cmp rfl rfl rfl rfl (fun _ => ?_) (fun _ => ?_) | refine AC_cond rfl (fun _ => ?_) (fun _ => ?_))
    rw [hr, hI]

end Go.Proofs.YtoknnfhgoikpiaaGreat

/-
  The first one that has a property, of arguments, of constructors.
-/
namespace Go.Proofs.YtoknnfhgoikpiaaGreat
set_option linter.unusedSimpArgs false
set_option linter.unusedVariables false
open Go.Aw Go.RowKit
attribute [local irreducible] WL AC WD WE MStep OkOp

theorem indexFuncA_spec (g : Nat) (xa : List AV) (hxa : xa.all closed0 = true) (p : Ar → Bool) (l : List Ar) (hl : l.length ≤ 1048576) (h : ∀ t, t ∈ l → FC Tryz.prog g ([aA t] ++ xa) (.bool (p t))) :
    FC Tryz.prog 245 [sA l, .fn (.func g) [] xa] (.int .i64 (idxF p l)) := by
  refine FC_intro hty Tryz.func245 rfl rfl rfl fun w0 => ?_
  repeat' (first | refine WL_p hty rfl rfl ?_ | refine WL_nil ?_ | refine AC_seq ?_ | refine AC_region ?_ | refine AC_block ?_ | refine AC_skip ?_ | refine AC_condT rfl ?_ | refine AC_condF rfl ?_ | refine AC_exit ?_ | refine AC_ret ?_ | refine WL_m rfl (m_idxN hty rfl rfl rfl (by assumption) rfl) ?_ | refine ends_bool rfl ?_ | refine WL_cmp rfl rfl rfl rfl (fun _ => ?_) (fun _ => ?_) | refine AC_cond rfl (fun _ => ?_) (fun _ => ?_))
  refine AC_for l.length (fun j => (l.take j).any p = false) (fun j => ⟨envOf [(0, sA l), (1, .fn (.func g) [] xa), (7, .int .i64 ((rsA l).length : Nat)), (8, .int .i64 (j : Nat))], bkOf []⟩)
    (less_sub ⟨⟨_, rfl, .inl ⟨.refl _, rfl⟩⟩, ⟨_, rfl, .inr ⟨_, ?_, .refl _⟩⟩, ⟨_, rfl, .inl ⟨.refl _, rfl⟩⟩, ⟨_, rfl, .inl ⟨.refl _, rfl⟩⟩, trivial⟩ trivial) rfl ?_
  · simp only [argV, argS, closedS, hxa]; rfl
  intro j hj hI
  repeat' (first | refine WL_p hty rfl rfl ?_ | refine WL_nil ?_ | refine AC_seq ?_ | refine AC_region ?_ | refine AC_block ?_ | refine AC_skip ?_ | refine AC_condT rfl ?_ | refine AC_condF rfl ?_ | refine AC_exit ?_ | refine AC_ret ?_ | refine WL_m rfl (m_idxN hty rfl rfl rfl (by assumption) rfl) ?_ | refine ends_bool rfl ?_)
  refine WL_cmp rfl rfl rfl rfl (fun hc => ?_) (fun hc => ?_)
  · have hlt : j < l.length := by rw [rsA_length] at hc; omega
    obtain ⟨k, hk, hmem⟩ := get_of_lt hlt
    have rk := rsA_get hk
    repeat' (first | refine WL_callFB rfl (by simp [hxa]) rfl (h k hmem) rfl (fun _ => ?_) (fun _ => ?_) | refine WL_p hty rfl rfl ?_ | refine WL_nil ?_ | refine AC_seq ?_ | refine AC_region ?_ | refine AC_block ?_ | refine AC_skip ?_ | refine AC_condT rfl ?_ | refine AC_condF rfl ?_ | refine AC_exit ?_ | refine AC_ret ?_ | refine WL_m rfl (m_idxN hty rfl rfl rfl (by assumption) rfl) ?_ | refine ends_bool rfl ?_ | refine WL_cmp rfl rfl rfl rfl (fun _ => ?_) (fun _ => ?_) | refine AC_cond rfl (fun _ => ?_) (fun _ => ?_))
    · exact ends_int rfl (idxF_hit ‹_› hI hk).symm
    · refine ⟨hlt, ?_, (less_sub ⟨⟨_, rfl, .inl ⟨.refl _, rfl⟩⟩, ⟨_, rfl, .inr ⟨_, ?_, .refl _⟩⟩, ⟨_, rfl, .inl ⟨.refl _, rfl⟩⟩, ⟨_, rfl, see_eq ?_ rfl⟩, trivial⟩ trivial)⟩
      · rw [any_take_succ hk, hI]; simp [*]
      · simp only [argV, argS, closedS, hxa]; rfl
      · exact congrArg (AV.int .i64) ((wrap_ok (by omega) (by omega)).trans (by omega))
  · obtain rfl : j = l.length := by rw [rsA_length] at hc; omega
    rw [List.take_length] at hI
    repeat' (first | refine WL_p hty rfl rfl ?_ | refine WL_nil ?_ | refine AC_seq ?_ | refine AC_region ?_ | refine AC_block ?_ | refine AC_skip ?_ | refine AC_condT rfl ?_ | refine AC_condF rfl ?_ | refine AC_exit ?_ | refine AC_ret ?_ | refine WL_m rfl (m_idxN hty rfl rfl rfl (by assumption) rfl) ?_ | refine ends_bool rfl ?_ | refine WL_cmp rfl rfl rfl rfl (fun _ => ?_) (fun _ => ?_) | refine AC_cond rfl (fun _ => ?_) (fun _ => ?_))
    exact ends_int rfl (idxF_none hI).symm

theorem containsFuncA_spec (g : Nat) (xa : List AV) (hxa : xa.all closed0 = true) (p : Ar → Bool) (l : List Ar) (hl : l.length ≤ 1048576) (h : ∀ t, t ∈ l → FC Tryz.prog g ([aA t] ++ xa) (.bool (p t))) :
    FC Tryz.prog 207 [sA l, .fn (.func g) [] xa] (.bool (l.any p)) := by
  have hq := indexFuncA_spec g xa hxa p l hl h
  refine FC_intro hty Tryz.func207 rfl rfl rfl fun w0 => ?_
  have he : ∀ s : AS, evO s (.tmp 5) = some (sA l) → evO s (.tmp 6) = some (.fn (.func g) [] xa) → evArgs s [.tmp 5, .tmp 6] = some [sA l, .fn (.func g) [] xa] := by
    intro s h1 h2
    simp only [evArgs, h1, h2, argV, argS, closedS, closed0, hxa]; rfl
  repeat' (first | refine WL_call 0 (he _ rfl rfl) hq rfl rfl rfl ?_ | refine WL_p hty rfl rfl ?_ | refine WL_nil ?_ | refine AC_seq ?_ | refine AC_region ?_ | refine AC_skip ?_ | refine AC_ret ?_ | refine ends_bool rfl ?_ | refine WL_cmp rfl rfl rfl rfl (fun _ => ?_) (fun _ => ?_))
  · exact (idxF_ge.1 ‹_›).symm
  · rename_i h
    rw [eq_comm, Bool.eq_false_iff]
    exact fun q => h (idxF_ge.2 q)

theorem indexFuncC_spec (g : Nat) (xa : List AV) (hxa : xa.all closed0 = true) (p : Cn → Bool) (l : List Cn) (hl : l.length ≤ 1048576) (h : ∀ t, t ∈ l → FC Tryz.prog g ([aC t] ++ xa) (.bool (p t))) :
    FC Tryz.prog 209 [sC l, .fn (.func g) [] xa] (.int .i64 (idxF p l)) := by
  refine FC_intro hty Tryz.func209 rfl rfl rfl fun w0 => ?_
  repeat' (first | refine WL_p hty rfl rfl ?_ | refine WL_nil ?_ | refine AC_seq ?_ | refine AC_region ?_ | refine AC_block ?_ | refine AC_skip ?_ | refine AC_condT rfl ?_ | refine AC_condF rfl ?_ | refine AC_exit ?_ | refine AC_ret ?_ | refine WL_m rfl (m_idxN hty rfl rfl rfl (by assumption) rfl) ?_ | refine ends_bool rfl ?_ | refine WL_cmp rfl rfl rfl rfl (fun _ => ?_) (fun _ => ?_) | refine AC_cond rfl (fun _ => ?_) (fun _ => ?_))
  refine AC_for l.length (fun j => (l.take j).any p = false) (fun j => ⟨envOf [(0, sC l), (1, .fn (.func g) [] xa), (7, .int .i64 ((rsC l).length : Nat)), (8, .int .i64 (j : Nat))], bkOf []⟩)
    (less_sub ⟨⟨_, rfl, .inl ⟨.refl _, rfl⟩⟩, ⟨_, rfl, .inr ⟨_, ?_, .refl _⟩⟩, ⟨_, rfl, .inl ⟨.refl _, rfl⟩⟩, ⟨_, rfl, .inl ⟨.refl _, rfl⟩⟩, trivial⟩ trivial) rfl ?_
  · simp only [argV, argS, closedS, hxa]; rfl
  intro j hj hI
  repeat' (first | refine WL_p hty rfl rfl ?_ | refine WL_nil ?_ | refine AC_seq ?_ | refine AC_region ?_ | refine AC_block ?_ | refine AC_skip ?_ | refine AC_condT rfl ?_ | refine AC_condF rfl ?_ | refine AC_exit ?_ | refine AC_ret ?_ | refine WL_m rfl (m_idxN hty rfl rfl rfl (by assumption) rfl) ?_ | refine ends_bool rfl ?_)
  refine WL_cmp rfl rfl rfl rfl (fun hc => ?_) (fun hc => ?_)
  · have hlt : j < l.length := by rw [rsC_length] at hc; omega
    obtain ⟨k, hk, hmem⟩ := get_of_lt hlt
    have rk := rsC_get hk
    repeat' (first | refine WL_callFB rfl (by simp [hxa]) rfl (h k hmem) rfl (fun _ => ?_) (fun _ => ?_) | refine WL_p hty rfl rfl ?_ | refine WL_nil ?_ | refine AC_seq ?_ | refine AC_region ?_ | refine AC_block ?_ | refine AC_skip ?_ | refine AC_condT rfl ?_ | refine AC_condF rfl ?_ | refine AC_exit ?_ | refine AC_ret ?_ | refine WL_m rfl (m_idxN hty rfl rfl rfl (by assumption) rfl) ?_ | refine ends_bool rfl ?_ | refine WL_cmp rfl rfl rfl rfl (fun _ => ?_) (fun _ => ?_) | refine AC_cond rfl (fun _ => ?_) (fun _ => ?_))
    · exact ends_int rfl (idxF_hit ‹_› hI hk).symm
    · refine ⟨hlt, ?_, (less_sub ⟨⟨_, rfl, .inl ⟨.refl _, rfl⟩⟩, ⟨_, rfl, .inr ⟨_, ?_, .refl _⟩⟩, ⟨_, rfl, .inl ⟨.refl _, rfl⟩⟩, ⟨_, rfl, see_eq ?_ rfl⟩, trivial⟩ trivial)⟩
      · rw [any_take_succ hk, hI]; simp [*]
      · simp only [argV, argS, closedS, hxa]; rfl
      · exact congrArg (AV.int .i64) ((wrap_ok (by omega) (by omega)).trans (by omega))
  · obtain rfl : j = l.length := by rw [rsC_length] at hc; omega
    rw [List.take_length] at hI
    repeat' (first | refine WL_p hty rfl rfl ?_ | refine WL_nil ?_ | refine AC_seq ?_ | refine AC_region ?_ | refine AC_block ?_ | refine AC_skip ?_ | refine AC_condT rfl ?_ | refine AC_condF rfl ?_ | refine AC_exit ?_ | refine AC_ret ?_ | refine WL_m rfl (m_idxN hty rfl rfl rfl (by assumption) rfl) ?_ | refine ends_bool rfl ?_ | refine WL_cmp rfl rfl rfl rfl (fun _ => ?_) (fun _ => ?_) | refine AC_cond rfl (fun _ => ?_) (fun _ => ?_))
    exact ends_int rfl (idxF_none hI).symm

theorem containsFuncC_spec (g : Nat) (xa : List AV) (hxa : xa.all closed0 = true) (p : Cn → Bool) (l : List Cn) (hl : l.length ≤ 1048576) (h : ∀ t, t ∈ l → FC Tryz.prog g ([aC t] ++ xa) (.bool (p t))) :
    FC Tryz.prog 155 [sC l, .fn (.func g) [] xa] (.bool (l.any p)) := by
  have hq := indexFuncC_spec g xa hxa p l hl h
  refine FC_intro hty Tryz.func155 rfl rfl rfl fun w0 => ?_
  have he : ∀ s : AS, evO s (.tmp 5) = some (sC l) → evO s (.tmp 6) = some (.fn (.func g) [] xa) → evArgs s [.tmp 5, .tmp 6] = some [sC l, .fn (.func g) [] xa] := by
    intro s h1 h2
    simp only [evArgs, h1, h2, argV, argS, closedS, closed0, hxa]; rfl
  repeat' (first | refine WL_call 0 (he _ rfl rfl) hq rfl rfl rfl ?_ | refine WL_p hty rfl rfl ?_ | refine WL_nil ?_ | refine AC_seq ?_ | refine AC_region ?_ | refine AC_skip ?_ | refine AC_ret ?_ | refine ends_bool rfl ?_ | refine WL_cmp rfl rfl rfl rfl (fun _ => ?_) (fun _ => ?_))
  · exact (idxF_ge.1 ‹_›).symm
  · rename_i h
    rw [eq_comm, Bool.eq_false_iff]
    exact fun q => h (idxF_ge.2 q)

end Go.Proofs.YtoknnfhgoikpiaaGreat

/-
  The program's word on a block's shape: sorts, constructors, blocks.
-/
namespace Go.Proofs.YtoknnfhgoikpiaaGreat
set_option linter.unusedSimpArgs false
set_option linter.unusedVariables false
open Go.Aw Go.RowKit
attribute [local irreducible] WL AC WD WE MStep OkOp

theorem ssort1_spec (a : Ar) (k : Int) (s : Sr) : FC Tryz.prog 208 [aA a, .eptr [.int .i64 k] 0, .eptr (cS s) 0] (.bool (sortBad k s.dec a)) := by
  obtain ⟨rc, tt, dd, so, ix⟩ := a
  obtain ⟨sx, sl, sd, st⟩ := s
  cases rc <;> cases sd
  all_goals
    refine FC_intro hty Tryz.func208 rfl rfl rfl fun w0 => ?_
    repeat' (first | refine WL_p hty rfl rfl ?_ | refine WL_nil ?_ | refine AC_seq ?_ | refine AC_region ?_ | refine AC_skip ?_ | refine AC_ret ?_ | refine WL_ung rfl rfl ?_ | refine WL_offT rfl rfl rfl ?_ | refine WL_offF rfl rfl rfl ?_ | refine WL_offU rfl rfl rfl ?_ | refine ends_bool rfl ?_ | refine WL_cmp rfl rfl rfl rfl (fun _ => ?_) (fun _ => ?_))
    all_goals first
      | rfl
      | ((try dsimp only at *); (try simp only [rsT_length] at *); simp only [sortBad]; simp only [Bool.true_and, Bool.or_false, Bool.or_true, Bool.false_eq_true, eq_comm (a := true), eq_comm (a := false), Bool.or_eq_true, Bool.or_eq_false_iff, decide_eq_true_eq, decide_eq_false_iff_not] <;> omega)

theorem ssort_spec (b : Bl) (k : Nat) (s : Sr) (hs : b.sorts[k]? = some s) (hb : b.size ≤ 1048576) : FC Tryz.prog 154 [aB b, .int .i64 (k : Nat)] (.bool (sortB b k s)) := by
  have hb' := hb
  unfold Bl.size at hb'
  have hss := size_le_sizesS (List.mem_of_getElem? hs)
  unfold Sr.size at hss
  have rs := rsS_get hs
  have hlx := len_le_sizesA s.idx
  have hcf := containsFuncA_spec 208 [.eptr [.int .i64 (k : Nat)] 0, .eptr (cS s) 0] rfl (sortBad (k : Nat) s.dec) s.idx (by omega) (fun a _ => ssort1_spec a (k : Nat) s)
  have hrow := srow_spec b s.idx hb (by omega)
  have hlv := slevel_spec s.level
  have hmb := smaybe_spec s.dec s.decT ((rsA s.idx).length : Nat) (by omega)
  have hlen : ((rsA s.idx).length : Int) = (s.idx.length : Int) := by rw [rsA_length]
  refine FC_intro hty Tryz.func154 rfl rfl rfl fun w0 => ?_
  repeat' (first | refine WL_m rfl (m_idxN (i := k) hty rfl rfl rfl rs rfl) ?_ | refine WL_callB rfl hrow rfl (fun _ => ?_) (fun _ => ?_) | refine WL_callB rfl hlv rfl (fun _ => ?_) (fun _ => ?_) | refine WL_callB rfl hmb rfl (fun _ => ?_) (fun _ => ?_) | (refine WL_less (less_freezeBox 3 rfl rfl) ?_; refine WL_less (less_freezeBox 5 rfl rfl) ?_; refine WL_m rfl (m_makeFunc rfl rfl rfl) ?_) | refine WL_callB rfl hcf rfl (fun _ => ?_) (fun _ => ?_) | refine WL_p hty rfl rfl ?_ | refine WL_nil ?_ | refine AC_seq ?_ | refine AC_region ?_ | refine AC_skip ?_ | refine AC_condT rfl ?_ | refine AC_condF rfl ?_ | refine AC_ret ?_ | refine WL_ung rfl rfl ?_ | refine WL_offT rfl rfl rfl ?_ | refine WL_offF rfl rfl rfl ?_ | refine WL_offU rfl rfl rfl ?_ | refine WL_m rfl (m_idxN hty rfl rfl rfl (by assumption) rfl) ?_ | refine ends_bool rfl ?_ | refine AC_cond rfl (fun _ => ?_) (fun _ => ?_))
  all_goals (rw [hlen] at *; simp only [sortB]; simp [*])

theorem scon_spec (b : Bl) (c : Cn) (hb : b.size ≤ 1048576) (ha : c.size ≤ 1048576) : FC Tryz.prog 157 [aB b, aC c] (.bool (conB b c)) := by
  have hb' := hb
  unfold Bl.size at hb'
  unfold Cn.size at ha
  have hsl := len_le_sizesS b.sorts
  have hla := len_le_sizesA c.args
  have hrow := srow_spec b c.args hb (by omega)
  have hal := sall_spec c.idx ((rsA c.args).length : Nat) (by omega)
  by_cases hin : inR c.sort 0 ((b.sorts.length : Int) - 1) = true
  · have hin2 := hin
    simp only [inR, Bool.and_eq_true, decide_eq_true_eq] at hin2
    obtain ⟨s, hs, hsm⟩ := get_of_lt (show c.sort.toNat < b.sorts.length by omega)
    have rs := rsS_get hs
    have hix : idxN b c.sort = s.idx.length := by unfold idxN; rw [hs]
    have hde : decS b c.sort = s.dec := by unfold decS; rw [hs]
    have hmb := smaybe_spec s.dec c.dec ((rsA c.args).length : Nat) (by omega)
    have hn1 : ¬ c.sort < 0 := by omega
    have hn2 : ¬ ((rsS b.sorts).length : Int) ≤ c.sort := by rw [rsS_length]; omega
    have hcb : conB b c = (rowB b c.args && (decide (c.idx.length = s.idx.length) && ((c.idx.all fun t => openT t c.args.length) && maybeB s.dec c.dec c.args.length))) := by
      simp only [conB, hin, hix, hde, rowB, maybeB, Bool.true_and]
      cases decide (c.args.length ≤ 12) <;> cases decide (c.idx.length = s.idx.length) <;> simp
    refine FC_intro hty Tryz.func157 rfl rfl rfl fun w0 => ?_
    repeat' (first | exact absurd (by assumption) hn1 | exact absurd (by assumption) hn2 | refine WL_m rfl (m_idxL hty rfl rfl rfl hin2.1 rs rfl) ?_ | refine WL_callB rfl hrow rfl (fun _ => ?_) (fun _ => ?_) | refine WL_callB rfl hal rfl (fun _ => ?_) (fun _ => ?_) | refine WL_callB rfl hmb rfl (fun _ => ?_) (fun _ => ?_) | refine WL_p hty rfl rfl ?_ | refine WL_nil ?_ | refine AC_seq ?_ | refine AC_region ?_ | refine AC_skip ?_ | refine AC_condT rfl ?_ | refine AC_condF rfl ?_ | refine AC_ret ?_ | refine WL_ung rfl rfl ?_ | refine WL_offT rfl rfl rfl ?_ | refine WL_offF rfl rfl rfl ?_ | refine WL_offU rfl rfl rfl ?_ | refine WL_m rfl (m_idxN hty rfl rfl rfl (by assumption) rfl) ?_ | refine ends_bool rfl ?_ | refine WL_cmp rfl rfl rfl rfl (fun _ => ?_) (fun _ => ?_) | refine AC_cond rfl (fun _ => ?_) (fun _ => ?_))
    all_goals simp only [rsA_length, rsT_length] at *
    all_goals first
      | (have e : decide (c.idx.length = s.idx.length) = true := decide_eq_true (by omega)
         rw [hcb, e]
         simp only [*, Bool.true_and, Bool.and_true, Bool.and_false, Bool.false_and]
         done)
      | (have e : decide (c.idx.length = s.idx.length) = false := decide_eq_false (by omega)
         rw [hcb, e]
         simp only [Bool.false_and, Bool.and_false]
         done)
      | (rw [hcb]
         simp only [*, Bool.false_and]
         done)
  · have hcb : conB b c = false := by simp only [conB, Bool.eq_false_iff.2 hin, Bool.false_and]
    rw [hcb]
    refine FC_intro hty Tryz.func157 rfl rfl rfl fun w0 => ?_
    repeat' (first | (refine absurd ?_ hin; simp only [inR, Bool.and_eq_true, decide_eq_true_eq]; simp only [rsS_length] at *; omega) | refine WL_p hty rfl rfl ?_ | refine WL_nil ?_ | refine AC_seq ?_ | refine AC_region ?_ | refine AC_skip ?_ | refine AC_condT rfl ?_ | refine AC_condF rfl ?_ | refine AC_ret ?_ | refine WL_ung rfl rfl ?_ | refine WL_offT rfl rfl rfl ?_ | refine WL_offF rfl rfl rfl ?_ | refine WL_offU rfl rfl rfl ?_ | refine WL_m rfl (m_idxN hty rfl rfl rfl (by assumption) rfl) ?_ | refine ends_bool rfl ?_ | refine WL_cmp rfl rfl rfl rfl (fun _ => ?_) (fun _ => ?_) | refine AC_cond rfl (fun _ => ?_) (fun _ => ?_))
    all_goals rfl

theorem scheck1_spec (b : Bl) (c : Cn) (hb : b.size ≤ 1048576) (ha : c.size ≤ 1048576) : FC Tryz.prog 156 [aC c, .eptr (cB b) 0] (.bool (!conB b c)) := by
  refine FC_intro hty Tryz.func156 rfl rfl rfl fun w0 => ?_
  repeat' (first | refine WL_callB rfl (scon_spec b c hb ha) rfl (fun _ => ?_) (fun _ => ?_) | refine WL_p hty rfl rfl ?_ | refine WL_nil ?_ | refine AC_seq ?_ | refine AC_region ?_ | refine AC_skip ?_ | refine AC_ret ?_ | refine ends_bool rfl ?_)
  all_goals simp [*]

theorem scheck_spec (b : Bl) (hb : b.size ≤ 1048576) : FC Tryz.prog 88 [aB b] (.int .i64 (if shapeB b = true then 0 else 12)) := by
  have hb' := hb
  unfold Bl.size at hb'
  have hsl := len_le_sizesS b.sorts
  have hcl := len_le_sizesC b.cons
  have hlv := slevel_spec b.elim
  have hcf := containsFuncC_spec 156 [.eptr (cB b) 0] rfl (fun c => !conB b c) b.cons (by omega) (fun c hc => scheck1_spec b c hb (by have := size_le_sizesC hc; omega))
  refine FC_intro hty Tryz.func88 rfl rfl rfl fun w0 => ?_
  repeat' (first | refine WL_callB rfl hlv rfl (fun _ => ?_) (fun _ => ?_) | refine WL_p hty rfl rfl ?_ | refine WL_nil ?_ | refine AC_seq ?_ | refine AC_region ?_ | refine AC_block ?_ | refine AC_skip ?_ | refine AC_condT rfl ?_ | refine AC_condF rfl ?_ | refine AC_exit ?_ | refine AC_ret ?_ | refine WL_ung rfl rfl ?_ | refine WL_offT rfl rfl rfl ?_ | refine WL_offF rfl rfl rfl ?_ | refine WL_offU rfl rfl rfl ?_ | refine ends_bool rfl ?_ | refine WL_cmp rfl rfl rfl rfl (fun _ => ?_) (fun _ => ?_) | refine AC_cond rfl (fun _ => ?_) (fun _ => ?_))
  · rename_i h
    rw [rsS_length] at h
    refine ends_int rfl ?_
    rw [if_neg]
    simp only [shapeB, inR, Bool.and_eq_true, decide_eq_true_eq]; omega
  · rename_i h1 h
    rw [rsS_length] at h
    refine ends_int rfl ?_
    rw [if_neg]
    simp only [shapeB, inR, Bool.and_eq_true, decide_eq_true_eq]; omega
  · rename_i h1 h2 h
    rw [rsC_length] at h
    refine ends_int rfl ?_
    rw [if_neg]
    simp only [shapeB, inR, Bool.and_eq_true, decide_eq_true_eq]; omega
  · rename_i h1 h2 h3 h4
    rw [rsS_length] at h1 h2
    rw [rsC_length] at h3
    have hsh : shapeB b = (sortsB b 0 b.sorts && b.cons.all (conB b)) := by
      have e1 : inR (b.sorts.length : Nat) 1 4 = true := by simp only [inR, Bool.and_eq_true, decide_eq_true_eq]; omega
      have e2 : decide (b.cons.length ≤ 8) = true := decide_eq_true (by omega)
      simp only [shapeB, e1, e2, h4, Bool.true_and]
    refine AC_for b.sorts.length (fun j => ∀ (i : Nat) (s : Sr), i < j → b.sorts[i]? = some s → sortB b i s = true) (fun j => ⟨envOf [(1, .ptr 1 0), (28, .int .i64 ((rsS b.sorts).length : Nat)), (29, .int .i64 (j : Nat))], bkOf [(1, .box (cB b))]⟩)
      (less_sub ⟨⟨_, rfl, .inl ⟨.refl _, rfl⟩⟩, ⟨_, rfl, .inl ⟨.refl _, rfl⟩⟩, ⟨_, rfl, .inl ⟨.refl _, rfl⟩⟩, trivial⟩ ⟨⟨⟨_, rfl, .refl _⟩, rfl⟩, trivial⟩) (fun i s hi => absurd hi (Nat.not_lt_zero _)) ?_
    intro j hj hI
    repeat' (first | refine WL_p hty rfl rfl ?_ | refine WL_nil ?_ | refine AC_seq ?_ | refine AC_region ?_ | refine AC_block ?_ | refine AC_skip ?_ | refine AC_condT rfl ?_ | refine AC_condF rfl ?_ | refine AC_exit ?_ | refine AC_ret ?_ | refine WL_ung rfl rfl ?_ | refine WL_offT rfl rfl rfl ?_ | refine WL_offF rfl rfl rfl ?_ | refine WL_offU rfl rfl rfl ?_ | refine ends_bool rfl ?_)
    refine WL_cmp rfl rfl rfl rfl (fun hc => ?_) (fun hc => ?_)
    · have hlt : j < b.sorts.length := by rw [rsS_length] at hc; omega
      obtain ⟨s, hs, hmem⟩ := get_of_lt hlt
      repeat' (first | refine WL_callB rfl (ssort_spec b j s hs hb) rfl (fun _ => ?_) (fun _ => ?_) | refine WL_p hty rfl rfl ?_ | refine WL_nil ?_ | refine AC_seq ?_ | refine AC_region ?_ | refine AC_block ?_ | refine AC_skip ?_ | refine AC_condT rfl ?_ | refine AC_condF rfl ?_ | refine AC_exit ?_ | refine AC_ret ?_ | refine WL_ung rfl rfl ?_ | refine WL_offT rfl rfl rfl ?_ | refine WL_offF rfl rfl rfl ?_ | refine WL_offU rfl rfl rfl ?_ | refine ends_bool rfl ?_ | refine WL_cmp rfl rfl rfl rfl (fun _ => ?_) (fun _ => ?_) | refine AC_cond rfl (fun _ => ?_) (fun _ => ?_))
      · rename_i hq
        refine ⟨hlt, fun i u hi hu => ?_, (less_sub ⟨⟨_, rfl, .inl ⟨.refl _, rfl⟩⟩, ⟨_, rfl, .inl ⟨.refl _, rfl⟩⟩, ⟨_, rfl, see_eq ?_ rfl⟩, trivial⟩ ⟨⟨⟨_, rfl, .refl _⟩, rfl⟩, trivial⟩)⟩
        · rcases Nat.lt_or_ge i j with q | q
          · exact hI i u q hu
          · obtain rfl : i = j := by omega
            rw [hs] at hu
            obtain rfl := Option.some.inj hu
            exact hq
        · exact congrArg (AV.int .i64) ((wrap_ok (by omega) (by omega)).trans (by omega))
      · rename_i hq
        refine ends_int rfl ?_
        rw [if_neg]
        intro hsb
        rw [hsh, Bool.and_eq_true] at hsb
        have := sortsB_iff.1 hsb.1 j s hs
        rw [Nat.zero_add, hq] at this
        cases this
    · obtain rfl : j = b.sorts.length := by rw [rsS_length] at hc; omega
      have hss : sortsB b 0 b.sorts = true := sortsB_iff.2 fun i s hs => by rw [Nat.zero_add]; exact hI i s (List.getElem?_eq_some_iff.1 hs).1 hs
      rw [hsh, hss, Bool.true_and]
      repeat' (first | (refine WL_less (less_freezeBox 1 rfl rfl) ?_; refine WL_m rfl (m_makeFunc rfl rfl rfl) ?_) | refine WL_callB rfl hcf rfl (fun _ => ?_) (fun _ => ?_) | refine WL_p hty rfl rfl ?_ | refine WL_nil ?_ | refine AC_seq ?_ | refine AC_region ?_ | refine AC_block ?_ | refine AC_skip ?_ | refine AC_condT rfl ?_ | refine AC_condF rfl ?_ | refine AC_exit ?_ | refine AC_ret ?_ | refine WL_ung rfl rfl ?_ | refine WL_offT rfl rfl rfl ?_ | refine WL_offF rfl rfl rfl ?_ | refine WL_offU rfl rfl rfl ?_ | refine ends_bool rfl ?_ | refine WL_cmp rfl rfl rfl rfl (fun _ => ?_) (fun _ => ?_) | refine AC_cond rfl (fun _ => ?_) (fun _ => ?_))
      · rename_i hq
        refine ends_int rfl ?_
        rw [if_neg]
        rw [all_not_any, hq]; decide
      · rename_i hq
        refine ends_int rfl ?_
        rw [if_pos]
        rw [all_not_any, hq]; rfl
  · rename_i h1 h2 h3 h
    refine ends_int rfl ?_
    rw [if_neg]
    simp only [shapeB, h, Bool.false_and, Bool.and_false]; decide

end Go.Proofs.YtoknnfhgoikpiaaGreat

/-
  What is more than is played, of blocks.
-/
namespace Go.Proofs.YtoknnfhgoikpiaaGreat
set_option linter.unusedSimpArgs false
set_option linter.unusedVariables false
open Go.Aw Go.RowKit
attribute [local irreducible] WL AC WD WE MStep OkOp

theorem heavy1_spec (t : Tm) (h : t.size ≤ 1048576) : FC Tryz.prog 16 [.lst 3 [cT t] true] (.bool (heavyT [t])) := by
  have h1 := heavy2_spec [t] (by simp only [sizes]; omega)
  simp only [sT, rs1] at h1
  exact h1.args (.cons (.full _ _ _) .nil)

theorem heavyArgs_spec (l : List Ar) (h : sizesA l ≤ 1048576) : FC Tryz.prog 111 [sA l] (.bool (heavyA l)) := by
  have hlen := len_le_sizesA l
  refine FC_intro hty Tryz.func111 rfl rfl rfl fun w0 => ?_
  repeat' (first | refine WL_p hty rfl rfl ?_ | refine WL_nil ?_ | refine AC_seq ?_ | refine AC_region ?_ | refine AC_block ?_ | refine AC_skip ?_ | refine AC_condT rfl ?_ | refine AC_condF rfl ?_ | refine AC_exit ?_ | refine AC_ret ?_ | refine WL_ung rfl rfl ?_ | refine WL_offT rfl rfl rfl ?_ | refine WL_offF rfl rfl rfl ?_ | refine WL_offU rfl rfl rfl ?_ | refine WL_m rfl (m_idxN hty rfl rfl rfl (by assumption) rfl) ?_ | refine ends_bool rfl ?_ | refine WL_cmp rfl rfl rfl rfl (fun _ => ?_) (fun _ => ?_) | refine AC_cond rfl (fun _ => ?_) (fun _ => ?_))
  · rename_i hc
    rw [rsA_length] at hc
    have : 20 < l.length := by omega
    simp [heavyA, this]
  rename_i hc
  rw [rsA_length] at hc
  have h20 : ¬ 20 < l.length := by omega
  refine AC_for l.length (fun j => (l.take j).any (fun a => heavyT [a.typ] || heavyT a.dom || heavyT a.idx) = false) (fun j => ⟨envOf [(0, sA l), (3, .int .i64 (j : Nat))], bkOf []⟩)
    (less_sub ⟨⟨_, rfl, .inl ⟨.refl _, rfl⟩⟩, ⟨_, rfl, .inl ⟨.refl _, rfl⟩⟩, trivial⟩ trivial) rfl ?_
  intro j hj hI
  repeat' (first | refine WL_p hty rfl rfl ?_ | refine WL_nil ?_ | refine AC_seq ?_ | refine AC_region ?_ | refine AC_block ?_ | refine AC_skip ?_ | refine AC_condT rfl ?_ | refine AC_condF rfl ?_ | refine AC_exit ?_ | refine AC_ret ?_ | refine WL_ung rfl rfl ?_ | refine WL_offT rfl rfl rfl ?_ | refine WL_offF rfl rfl rfl ?_ | refine WL_offU rfl rfl rfl ?_ | refine WL_m rfl (m_idxN hty rfl rfl rfl (by assumption) rfl) ?_ | refine ends_bool rfl ?_)
  refine WL_cmp rfl rfl rfl rfl (fun hc => ?_) (fun hc => ?_)
  · have hlt : j < l.length := by rw [rsA_length] at hc; omega
    obtain ⟨k, hk, hmem⟩ := get_of_lt hlt
    have hks := size_le_sizesA hmem
    unfold Ar.size at hks
    have rk := rsA_get hk
    have hat := any_take_succ (p := fun a : Ar => heavyT [a.typ] || heavyT a.dom || heavyT a.idx) hk
    repeat' (first | refine WL_callB rfl (heavy1_spec _ (by omega)) rfl (fun _ => ?_) (fun _ => ?_) | refine WL_callB rfl (heavy2_spec _ (by omega)) rfl (fun _ => ?_) (fun _ => ?_) | refine WL_p hty rfl rfl ?_ | refine WL_nil ?_ | refine AC_seq ?_ | refine AC_region ?_ | refine AC_block ?_ | refine AC_skip ?_ | refine AC_condT rfl ?_ | refine AC_condF rfl ?_ | refine AC_exit ?_ | refine AC_ret ?_ | refine WL_ung rfl rfl ?_ | refine WL_offT rfl rfl rfl ?_ | refine WL_offF rfl rfl rfl ?_ | refine WL_offU rfl rfl rfl ?_ | refine WL_m rfl (m_idxN hty rfl rfl rfl (by assumption) rfl) ?_ | refine ends_bool rfl ?_ | refine WL_cmp rfl rfl rfl rfl (fun _ => ?_) (fun _ => ?_) | refine AC_cond rfl (fun _ => ?_) (fun _ => ?_))
    all_goals first
      | have h3 : l.any (fun a => heavyT [a.typ] || heavyT a.dom || heavyT a.idx) = true := any_of_get hk (by simp_all; done)
        simp [heavyA, h3]
        done
      | refine ⟨hlt, ?_, (less_sub ⟨⟨_, rfl, .inl ⟨.refl _, rfl⟩⟩, ⟨_, rfl, see_eq ?_ rfl⟩, trivial⟩ trivial)⟩
        · simp_all
        · exact congrArg (AV.int .i64) ((wrap_ok (by omega) (by omega)).trans (by omega))
  · obtain rfl : j = l.length := by rw [rsA_length] at hc; omega
    rw [List.take_length] at hI
    repeat' (first | refine WL_p hty rfl rfl ?_ | refine WL_nil ?_ | refine AC_seq ?_ | refine AC_region ?_ | refine AC_block ?_ | refine AC_skip ?_ | refine AC_condT rfl ?_ | refine AC_condF rfl ?_ | refine AC_exit ?_ | refine AC_ret ?_ | refine WL_ung rfl rfl ?_ | refine WL_offT rfl rfl rfl ?_ | refine WL_offF rfl rfl rfl ?_ | refine WL_offU rfl rfl rfl ?_ | refine WL_m rfl (m_idxN hty rfl rfl rfl (by assumption) rfl) ?_ | refine ends_bool rfl ?_ | refine WL_cmp rfl rfl rfl rfl (fun _ => ?_) (fun _ => ?_) | refine AC_cond rfl (fun _ => ?_) (fun _ => ?_))
    simp only [heavyA, hI]; simp [h20]

theorem heavyB_spec (b : Bl) (h : b.size ≤ 1048576) : FC Tryz.prog 67 [aB b] (.bool (heavyB b)) := by
  unfold Bl.size at h
  have hl1 := len_le_sizesS b.sorts
  have hl2 := len_le_sizesC b.cons
  refine FC_intro hty Tryz.func67 rfl rfl rfl fun w0 => ?_
  repeat' (first | refine WL_p hty rfl rfl ?_ | refine WL_nil ?_ | refine AC_seq ?_ | refine AC_region ?_ | refine AC_block ?_ | refine AC_skip ?_ | refine AC_condT rfl ?_ | refine AC_condF rfl ?_ | refine AC_exit ?_ | refine AC_ret ?_ | refine WL_ung rfl rfl ?_ | refine WL_offT rfl rfl rfl ?_ | refine WL_offF rfl rfl rfl ?_ | refine WL_offU rfl rfl rfl ?_ | refine WL_m rfl (m_idxN hty rfl rfl rfl (by assumption) rfl) ?_ | refine ends_bool rfl ?_ | refine WL_cmp rfl rfl rfl rfl (fun _ => ?_) (fun _ => ?_) | refine AC_cond rfl (fun _ => ?_) (fun _ => ?_))
  · rename_i hc
    rw [rsS_length] at hc
    have : 10 < b.sorts.length := by omega
    simp [heavyB, this]
  · rename_i hc
    rw [rsC_length] at hc
    have : 20 < b.cons.length := by omega
    simp [heavyB, this]
  rename_i hc1 hc2
  rw [rsS_length] at hc1
  rw [rsC_length] at hc2
  have h10 : ¬ 10 < b.sorts.length := by omega
  have h20 : ¬ 20 < b.cons.length := by omega
  refine AC_for b.sorts.length (fun j => (b.sorts.take j).any heavyS = false) (fun j => ⟨envOf [(1, .ptr 1 0), (3, .int .i64 (j : Nat))], bkOf [(1, .box [.lst 6 (rsS b.sorts) false, .lst 6 (rsC b.cons) false, .int .i64 b.elim])]⟩)
    (less_sub ⟨⟨_, rfl, .inl ⟨.refl _, rfl⟩⟩, ⟨_, rfl, .inl ⟨.refl _, rfl⟩⟩, trivial⟩ ⟨⟨⟨_, rfl, .refl _⟩, rfl⟩, trivial⟩) rfl ?_
  intro j hj hI
  repeat' (first | refine WL_p hty rfl rfl ?_ | refine WL_nil ?_ | refine AC_seq ?_ | refine AC_region ?_ | refine AC_block ?_ | refine AC_skip ?_ | refine AC_condT rfl ?_ | refine AC_condF rfl ?_ | refine AC_exit ?_ | refine AC_ret ?_ | refine WL_ung rfl rfl ?_ | refine WL_offT rfl rfl rfl ?_ | refine WL_offF rfl rfl rfl ?_ | refine WL_offU rfl rfl rfl ?_ | refine WL_m rfl (m_idxN hty rfl rfl rfl (by assumption) rfl) ?_ | refine ends_bool rfl ?_)
  refine WL_cmp rfl rfl rfl rfl (fun hc => ?_) (fun hc => ?_)
  · have hlt : j < b.sorts.length := by rw [rsS_length] at hc; omega
    obtain ⟨k, hk, hmem⟩ := get_of_lt hlt
    have hks := size_le_sizesS hmem
    unfold Sr.size at hks
    have rk := rsS_get hk
    have hat := any_take_succ (p := heavyS) hk
    repeat' (first | refine WL_callB rfl (heavyArgs_spec _ (by omega)) rfl (fun _ => ?_) (fun _ => ?_) | refine WL_callB rfl (heavy1_spec _ (by omega)) rfl (fun _ => ?_) (fun _ => ?_) | refine WL_p hty rfl rfl ?_ | refine WL_nil ?_ | refine AC_seq ?_ | refine AC_region ?_ | refine AC_block ?_ | refine AC_skip ?_ | refine AC_condT rfl ?_ | refine AC_condF rfl ?_ | refine AC_exit ?_ | refine AC_ret ?_ | refine WL_ung rfl rfl ?_ | refine WL_offT rfl rfl rfl ?_ | refine WL_offF rfl rfl rfl ?_ | refine WL_offU rfl rfl rfl ?_ | refine WL_m rfl (m_idxN hty rfl rfl rfl (by assumption) rfl) ?_ | refine ends_bool rfl ?_ | refine WL_cmp rfl rfl rfl rfl (fun _ => ?_) (fun _ => ?_) | refine AC_cond rfl (fun _ => ?_) (fun _ => ?_))
    all_goals first
      | have h3 : b.sorts.any heavyS = true := any_of_get hk (by simp_all [heavyS]; done)
        simp [heavyB, h3]
        done
      | refine ⟨hlt, ?_, (less_sub ⟨⟨_, rfl, .inl ⟨.refl _, rfl⟩⟩, ⟨_, rfl, see_eq ?_ rfl⟩, trivial⟩ ⟨⟨⟨_, rfl, .refl _⟩, rfl⟩, trivial⟩)⟩
        · simp_all [heavyS]
        · exact congrArg (AV.int .i64) ((wrap_ok (by omega) (by omega)).trans (by omega))
  · obtain rfl : j = b.sorts.length := by rw [rsS_length] at hc; omega
    rw [List.take_length] at hI
    repeat' (first | refine WL_p hty rfl rfl ?_ | refine WL_nil ?_ | refine AC_seq ?_ | refine AC_region ?_ | refine AC_block ?_ | refine AC_skip ?_ | refine AC_condT rfl ?_ | refine AC_condF rfl ?_ | refine AC_exit ?_ | refine AC_ret ?_ | refine WL_ung rfl rfl ?_ | refine WL_offT rfl rfl rfl ?_ | refine WL_offF rfl rfl rfl ?_ | refine WL_offU rfl rfl rfl ?_ | refine WL_m rfl (m_idxN hty rfl rfl rfl (by assumption) rfl) ?_ | refine ends_bool rfl ?_ | refine WL_cmp rfl rfl rfl rfl (fun _ => ?_) (fun _ => ?_) | refine AC_cond rfl (fun _ => ?_) (fun _ => ?_))
    clear hj hc
    refine AC_for b.cons.length (fun j => (b.cons.take j).any heavyC = false) (fun j => ⟨envOf [(1, .ptr 1 0), (4, .int .i64 (j : Nat))], bkOf [(1, .box [.lst 6 (rsS b.sorts) false, .lst 6 (rsC b.cons) false, .int .i64 b.elim])]⟩)
      (less_sub ⟨⟨_, rfl, .inl ⟨.refl _, rfl⟩⟩, ⟨_, rfl, .inl ⟨.refl _, rfl⟩⟩, trivial⟩ ⟨⟨⟨_, rfl, .refl _⟩, rfl⟩, trivial⟩) rfl ?_
    intro j hj hJ
    repeat' (first | refine WL_p hty rfl rfl ?_ | refine WL_nil ?_ | refine AC_seq ?_ | refine AC_region ?_ | refine AC_block ?_ | refine AC_skip ?_ | refine AC_condT rfl ?_ | refine AC_condF rfl ?_ | refine AC_exit ?_ | refine AC_ret ?_ | refine WL_ung rfl rfl ?_ | refine WL_offT rfl rfl rfl ?_ | refine WL_offF rfl rfl rfl ?_ | refine WL_offU rfl rfl rfl ?_ | refine WL_m rfl (m_idxN hty rfl rfl rfl (by assumption) rfl) ?_ | refine ends_bool rfl ?_)
    refine WL_cmp rfl rfl rfl rfl (fun hc => ?_) (fun hc => ?_)
    · have hlt : j < b.cons.length := by rw [rsC_length] at hc; omega
      obtain ⟨k, hk, hmem⟩ := get_of_lt hlt
      have hks := size_le_sizesC hmem
      unfold Cn.size at hks
      have rk := rsC_get hk
      have hat := any_take_succ (p := heavyC) hk
      repeat' (first | refine WL_callB rfl (heavyArgs_spec _ (by omega)) rfl (fun _ => ?_) (fun _ => ?_) | refine WL_callB rfl (heavy1_spec _ (by omega)) rfl (fun _ => ?_) (fun _ => ?_) | refine WL_callB rfl (heavy2_spec _ (by omega)) rfl (fun _ => ?_) (fun _ => ?_) | refine WL_p hty rfl rfl ?_ | refine WL_nil ?_ | refine AC_seq ?_ | refine AC_region ?_ | refine AC_block ?_ | refine AC_skip ?_ | refine AC_condT rfl ?_ | refine AC_condF rfl ?_ | refine AC_exit ?_ | refine AC_ret ?_ | refine WL_ung rfl rfl ?_ | refine WL_offT rfl rfl rfl ?_ | refine WL_offF rfl rfl rfl ?_ | refine WL_offU rfl rfl rfl ?_ | refine WL_m rfl (m_idxN hty rfl rfl rfl (by assumption) rfl) ?_ | refine ends_bool rfl ?_ | refine WL_cmp rfl rfl rfl rfl (fun _ => ?_) (fun _ => ?_) | refine AC_cond rfl (fun _ => ?_) (fun _ => ?_))
      all_goals first
        | have h3 : b.cons.any heavyC = true := any_of_get hk (by simp_all [heavyC]; done)
          simp [heavyB, h3]
          done
        | refine ⟨hlt, ?_, (less_sub ⟨⟨_, rfl, .inl ⟨.refl _, rfl⟩⟩, ⟨_, rfl, see_eq ?_ rfl⟩, trivial⟩ ⟨⟨⟨_, rfl, .refl _⟩, rfl⟩, trivial⟩)⟩
          · simp_all [heavyC]
          · exact congrArg (AV.int .i64) ((wrap_ok (by omega) (by omega)).trans (by omega))
    · obtain rfl : j = b.cons.length := by rw [rsC_length] at hc; omega
      rw [List.take_length] at hJ
      repeat' (first | refine WL_p hty rfl rfl ?_ | refine WL_nil ?_ | refine AC_seq ?_ | refine AC_region ?_ | refine AC_block ?_ | refine AC_skip ?_ | refine AC_condT rfl ?_ | refine AC_condF rfl ?_ | refine AC_exit ?_ | refine AC_ret ?_ | refine WL_ung rfl rfl ?_ | refine WL_offT rfl rfl rfl ?_ | refine WL_offF rfl rfl rfl ?_ | refine WL_offU rfl rfl rfl ?_ | refine WL_m rfl (m_idxN hty rfl rfl rfl (by assumption) rfl) ?_ | refine ends_bool rfl ?_ | refine WL_cmp rfl rfl rfl rfl (fun _ => ?_) (fun _ => ?_) | refine AC_cond rfl (fun _ => ?_) (fun _ => ?_))
      simp only [heavyB, hI, hJ]; simp [h10, h20]

end Go.Proofs.YtoknnfhgoikpiaaGreat

/-
  What a row of entries reads as.
-/
namespace Go.Proofs.YtoknnfhgoikpiaaGreat
set_option linter.unusedSimpArgs false
set_option linter.unusedVariables false
open Go.Aw Go.RowKit

theorem ce_en : Tryz.prog.cellsOf 48 = 12 := by kernel_rfl
theorem ce_ens : Tryz.prog.cellsOf 22 = 1 := by kernel_rfl

section
variable {H : Type} {enc : TypeId × Value → H} {w : World} {fuel : Nat} {cs : List Value} {d : DataW H} {ps : List MemPlace}

theorem sizesE_sum (l : List En) : (l.map fun t => 3 * En.size t).sum = 3 * sizesE l := by
  induction l with
  | nil => rfl
  | cons a l ih => simp only [List.map_cons, List.sum_cons, ih, sizesE]; omega
theorem map_cE (l : List En) : l.map cE = rsE l := (rsE_map l).symm

set_option maxRecDepth 100000 in
theorem read_en {cs} {d : DataW H} {ps} (h : DataW.trod enc Tryz.prog w 0 (fun _ => true) true fuel 48 cs = some (d, ps)) : ∃ t : En, CV (oldS w) w cs (cE t) ∧ 3 * t.size ≤ Rows.uptoBulk d := by
  obtain ⟨xs, n, rfl, e, hl, hxl, hf⟩ := DataW.trod_struct Tryz.underlying48 h
  obtain ⟨rfl, rfl⟩ := Prod.mk.inj e
  rw [ce_en] at hl
  match xs, hxl, cs, hl with
  | [x0, x1, x2, x3, x4, x5], _, [c0, c1, c2, c3, c4, c5, c6, c7, c8, c9, c10, c11], _ =>
    have h0 : DataW.trod enc Tryz.prog w 0 (fun _ => true) true n 3 (List.take (Tryz.prog.cellsOf 3) [c0, c1, c2, c3, c4, c5, c6, c7, c8, c9, c10, c11]) = some (x0.1, x0.2) := hf 0 _ rfl
    rw [ce_int] at h0
    have h1 : DataW.trod enc Tryz.prog w 0 (fun _ => true) true n 25 (List.take (Tryz.prog.cellsOf 25) [c1, c2, c3, c4, c5, c6, c7, c8, c9, c10, c11]) = some (x1.1, x1.2) := hf 1 _ rfl
    rw [ce_tm] at h1
    have h2 : DataW.trod enc Tryz.prog w 0 (fun _ => true) true n 25 (List.take (Tryz.prog.cellsOf 25) [c4, c5, c6, c7, c8, c9, c10, c11]) = some (x2.1, x2.2) := hf 2 _ rfl
    rw [ce_tm] at h2
    have h3 : DataW.trod enc Tryz.prog w 0 (fun _ => true) true n 3 (List.take (Tryz.prog.cellsOf 3) [c7, c8, c9, c10, c11]) = some (x3.1, x3.2) := hf 3 _ rfl
    rw [ce_int] at h3
    have h4 : DataW.trod enc Tryz.prog w 0 (fun _ => true) true n 3 (List.take (Tryz.prog.cellsOf 3) [c8, c9, c10, c11]) = some (x4.1, x4.2) := hf 4 _ rfl
    rw [ce_int] at h4
    have h5 : DataW.trod enc Tryz.prog w 0 (fun _ => true) true n 46 (List.take (Tryz.prog.cellsOf 46) [c9, c10, c11]) = some (x5.1, x5.2) := hf 5 _ rfl
    rw [ce_bl] at h5
    obtain ⟨o, _, r0, _⟩ := read_int Tryz.underlying3 h0
    obtain ⟨m, r1, s1⟩ := read_tm _ _ _ _ h1
    obtain ⟨l, r2, s2⟩ := read_tm _ _ _ _ h2
    obtain ⟨p, _, r3, _⟩ := read_int Tryz.underlying3 h3
    obtain ⟨q, _, r4, _⟩ := read_int Tryz.underlying3 h4
    obtain ⟨z, r5, s5⟩ := read_bl h5
    refine ⟨⟨o, m, l, p, q, z⟩, r0.append (r1.append (r2.append (r3.append (r4.append r5)))), ?_⟩
    simp only [En.size, List.map_cons, List.map_nil, Rows.uptoBulk, Rows.uptoBulkAll]
    omega
theorem read_ens {cs} {d : DataW H} {ps} (h : DataW.trod enc Tryz.prog w 0 (fun _ => true) true fuel 22 cs = some (d, ps)) : ∃ l : List En, CV (oldS w) w cs [sE l] ∧ 3 * sizesE l ≤ Rows.uptoBulk d := by
  obtain ⟨l, r2, hs⟩ := read_slice Tryz.underlying22 ce_en (by decide) (fun t => 3 * En.size t) cE Rows.uptoBulk bulk_slice (fun m cs d ps hm hh => read_en hh) h
  rw [map_cE] at r2
  rw [sizesE_sum] at hs
  exact ⟨l, r2, hs⟩
end

end Go.Proofs.YtoknnfhgoikpiaaGreat
