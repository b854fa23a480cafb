/-
  Contracts that tell a property of what is handed back; calls whose answer parts the walk.
-/
import Derived.Test.YtpnjflimilamdaaGreatAw24
namespace Go.Aw
open Go.RowKit

section
variable {P : Program} {ty : Ty} {w0 : B0} {nt : Nat} {s s' : AS} {ops : Array Oper} {l : List Oper} {o : Oper} {K : AS → Prop} {d : Option Nat} {t : TypeId} {pos : String} {af : Array Edge} {g : Option (Nat × Bool)}

/-- The contract by a property: called with what reads as 'args', f returns what reads as a value that has it. -/
structure RC (P : Program) (f : Nat) (args : List AV) (R : AV → Prop) : Prop where
  pc : ∀ (w : World) (S0 : St) (ca : Array Value), (∀ b o, S0 b o → b < w.heap.size) → ca.size = args.length → (∀ j, j < args.length → VR nb S0 w (ca.getD j undef) (args.getD j .any)) →
    Calls P f ca w fun e w' => ∃ res, R res ∧ ∃ v S', e = .returned v ∧ Below w.heap.size w w' ∧ (∀ b o, S0 b o → S' b o) ∧ (∀ b o, S' b o → b < w.heap.size → S0 b o) ∧ (∀ b o, S' b o → b < w'.heap.size) ∧ RV S' w w' v res
  fn : ∃ fn, P.funcs[f]? = some fn ∧ fn.body.isNone = false ∧ (fn.name == "runtime.NumGoroutine") = false

theorem FC.rc {f : Nat} {args : List AV} {res : AV} {R : AV → Prop} (h : FC P f args res) (hr : R res) : RC P f args R :=
  ⟨fun w S0 ca h1 h2 h3 => (h.pc w S0 ca h1 h2 h3).mono fun _ _ q => ⟨res, hr, q⟩, h.fn⟩
theorem RC.mono {f : Nat} {args : List AV} {R R' : AV → Prop} (h : RC P f args R) (hr : ∀ r, R r → R' r) : RC P f args R' :=
  ⟨fun w S0 ca h1 h2 h3 => (h.pc w S0 ca h1 h2 h3).mono fun _ _ ⟨r, q1, q2⟩ => ⟨r, hr r q1, q2⟩, h.fn⟩
theorem RC.fc {f : Nat} {args : List AV} {R : AV → Prop} {res : AV} (h : RC P f args R) (hr : ∀ r, R r → r = res) : FC P f args res :=
  ⟨fun w S0 ca h1 h2 h3 => (h.pc w S0 ca h1 h2 h3).mono fun _ _ ⟨r, q1, q2⟩ => by rw [hr r q1] at q2; exact q2, h.fn⟩

/-- A call by a property: the walk goes on with each value that has it. -/
theorem WL_callR {f : Nat} {as : Array Operand} {ts : Array TypeId} {xs : List AV} {R : AV → Prop} (id : Nat) (ha : evArgs s as.toList = some xs) (hc : RC P f xs R) (hd : dOK nt d = true)
    (r : ∀ res, R res → ∃ e, thawE id res = some e ∧ e.2.all (fun p => (s.blk p.1).isNone) = true ∧ WL P w0 nt ops l (s.eff d e.1 e.2) K) :
    WL P w0 nt ops (⟨d, .call { callee := .value (.func f), args := as, argTypes := ts }, t, pos, af, none⟩ :: l) s K := by
  intro β S a w Q hs hq
  refine wpList_plain rfl fun N hN => ?_
  obtain ⟨fn, hf, hbody, hname⟩ := hc.fn
  obtain ⟨e1, e2⟩ := evArgs_ok hs ha
  have hr : (execOp a.eval ⟨d, .call { callee := .value (.func f), args := as, argTypes := ts }, t, pos, af, none⟩).run P w = .ok (.enter f (as.map a.eval)) w := by
    have hcf : (callFunc f (as.map a.eval)).run P w = .ok (.enter f (as.map a.eval)) w := by
      unfold callFunc
      rw [Sem.run_bind, run_program, Result.andThen_ok]
      simp only [hf, hname, hbody, Bool.false_eq_true, if_false, Sem.run_pure]
    simp [execOp, resolve, Act.eval, Deferred.ofValue, invoke, hcf]
  unfold Oper.wp
  rw [hr]
  simp only [Oper.upon]
  have hgs : w0.heap.size ≤ w.heap.size := hs.hh.hbelow.size
  refine (hc.pc w S (as.map a.eval) hs.hh.hlt (by simpa using e1) (fun j hj => by
    have := e2 j hj
    rw [← getD_toList, Array.toList_map]; exact this)).mono ?_
  rintro e w' ⟨res, hR, v, S', rfl, hB, h1, h2, h3, hv⟩
  obtain ⟨⟨y, bs⟩, ht, hid, hk⟩ := r res hR
  have hn : ∀ p ∈ bs, s.blk p.1 = none := fun p hp => by
    have := List.all_eq_true.1 hid p hp
    cases q : s.blk p.1 with
    | none => rfl
    | some k => simp [q] at this
  obtain ⟨q1, q2⟩ := hs.hh.extS hB h1 h2 h3
  obtain ⟨β', r1, r2, r3⟩ := thaw_ok q1 hgs (thawE_ok ht hn) hv (fun b hb i bj kj p q l => by
    obtain ⟨bi, z1, z2, _⟩ := hs.hh.hblk i kj q
    rw [p] at z1
    obtain rfl := Option.some.inj z1
    have := z2.lt l
    omega)
  have hs2 : SR w0 nt β' S' ⟨s.env, setBs s.blk bs⟩ a w' := ⟨r1, fun u z q => r3 (q2 (hs.henv u z q)), hs.hsize, hs.hdefers⟩
  exact hN _ _ (hk β' S' _ w' Q (hs2.put hd r2) hq)

/-- .. a word. -/
theorem WL_callRB {f : Nat} {as : Array Operand} {ts : Array TypeId} {xs : List AV} {φ : Bool → Prop} (ha : evArgs s as.toList = some xs) (hc : RC P f xs (fun r => ∃ b, r = .bool b ∧ φ b)) (hd : dOK nt d = true)
    (h1 : φ true → WL P w0 nt ops l (s.put d (.bool true)) K) (h2 : φ false → WL P w0 nt ops l (s.put d (.bool false)) K) : WL P w0 nt ops (⟨d, .call { callee := .value (.func f), args := as, argTypes := ts }, t, pos, af, none⟩ :: l) s K := by
  refine WL_callR 0 ha hc hd fun res hR => ?_
  obtain ⟨b, rfl, hb⟩ := hR
  refine ⟨(.bool b, []), rfl, rfl, ?_⟩
  cases b
  · exact h2 hb
  · exact h1 hb

def EndsR (ty : Ty) (rs : List ResultVar) (R : AV → Prop) (e : Exit) (s' : AS) : Prop := ∃ res, R res ∧ EndsAs ty rs res e s'
theorem endsR_bool {rs : List ResultVar} {b : Bool} {φ : Bool → Prop} (h : resL ty s' rs = some [.bool b]) (hb : φ b) : EndsR ty rs (fun r => ∃ b, r = .bool b ∧ φ b) .ret s' := ⟨_, ⟨b, rfl, hb⟩, ends_bool h rfl⟩

theorem RC_intro (hty : TyOK P ty) {f : Nat} {fn : Func} {c : Code} {args : List AV} {R : AV → Prop} (hf : P.funcs[f]? = some fn) (hb : fn.body = some c) (hname : (fn.name == "runtime.NumGoroutine") = false) (hn : Nat.ble args.length fn.ntmps = true)
    (h : ∀ w0 : B0, AC P w0 fn.ntmps c ⟨fun t => args[t]?, fun _ => none⟩ (EndsR ty fn.results.toList R)) : RC P f args R := by
  refine ⟨?_, fn, hf, by rw [hb]; rfl, hname⟩
  intro w S0 ca hS hsz hca
  have hn := Nat.le_of_ble_eq_true hn
  refine calls_of_wp hf hb (h ⟨w, S0, (· < w.heap.size), fun _ h => h⟩ nb S0 _ _ _ ⟨⟨fun id k q => (by cases q), fun id bi q => (by cases q), fun i j bi bj ki kj _ q => (by cases q), fun b o q => q, fun b o q _ => q, hS, BelowP.refl _ _⟩, ?_, ?_, rfl⟩ ?_)
  · intro t x hx
    have hlt : t < args.length := (List.getElem?_eq_some_iff.1 hx).1
    have := hca t hlt
    have hx' : args[t]? = some x := hx
    have e1 : args.getD t .any = x := by rw [List.getD_eq_getElem?_getD, hx']; rfl
    have e2 : (ca ++ Array.replicate (fn.ntmps - ca.size) undef).getD t undef = ca.getD t undef := by
      simp only [Array.getD_eq_getD_getElem?]
      rw [Array.getElem?_append_left (by omega)]
    rw [e1] at this
    simp only [e2]
    exact this
  · simp only [Array.size_append, Array.size_replicate]; omega
  · intro e β' S' a' w' s' hk hs'
    obtain ⟨res, hR, he, s2, hl2, vs, h1, h2⟩ := hk
    obtain ⟨β', S', hs'⟩ := hl2 _ _ _ _ _ _ hs'
    obtain ⟨us, h3, h4, h5⟩ := resL_ok hty hs' h1
    have hres : (results fn a'.tmps).run P w' = .ok (if h : us.toArray.size = 1 then us.toArray[0] else .tuple us.toArray) w' := by
      rw [results_eq, Array.mapM_eq_mapM_toList]
      simp only [Sem.run_bind, Sem.run_map, h3, Result.andThen_ok, Sem.run_pure]
    have hpost : a'.defers = [] ∧ ∃ v, (results fn a'.tmps).run P w' = .ok v w' ∧ ∃ res, R res ∧ ∃ v2 S2, Ending.returned v = Ending.returned v2 ∧ Below w.heap.size w w' ∧ (∀ b o, S0 b o → S2 b o) ∧ (∀ b o, S2 b o → b < w.heap.size → S0 b o) ∧ (∀ b o, S2 b o → b < w'.heap.size) ∧ RV S2 w w' v2 res :=
      ⟨hs'.hdefers, _, hres, res, hR, _, S', rfl, hs'.hh.hbelow.below, hs'.hh.hold, hs'.hh.hnew, hs'.hh.hlt, by
        rcases h2 with h2 | h2
        · obtain ⟨x, h2, h6⟩ := h2
          exact packL_ok hs'.hh h4 h5 h2 h6
        · exact packR_ok (fun b hb => Nat.le_of_not_lt hb) hs'.hh h4 h5 h2⟩
    rcases he with rfl | rfl
    · exact hpost
    · exact hpost
end
end Go.Aw
