/-
  From a law's contract to its row: the arguments that were read stand for abstract values; behind the call they read as before.
-/
import Derived.Test.YtpnjflimilamdaaGreatAw22
import Derived.ReadAgain
import Derived.ChangeOld
import Derived.JoinedCond
import Derived.ProofKit
import Derived.OpenShut
namespace Go.Aw
open Go.RowKit Go.ChangeShapes Go.WideShapes

section
variable {H : Type} {enc : TypeId × Value → H} {P : Program} {W W' : World}

theorem trod_stay {t : TypeId} {v : Value} {d : DataW H} {ps : List MemPlace} {spare : Nat → Bool} {held : Bool} (h : DataW.Trod enc P W 0 spare held t v d ps) (hp : ∀ p ∈ ps, p.block < W.heap.size) (hB : Below W.heap.size W W') :
    DataW.Trod enc P W' 0 spare held t v d ps := by
  obtain ⟨n, hn⟩ := h
  refine ⟨n, DataW.trod_carry n _ _ _ hn fun p hpm => ?_⟩
  have := hp p hpm
  cases p with
  | cell b o => exact cell_lt hB this
  | map b => exact hB.block _ this

theorem trodAll_stay {spare : Nat → Bool} {held : Bool} (hB : Below W.heap.size W W') : ∀ {ts : List TypeId} {vs : List Value} {ds : List (DataW H)} {ps : List MemPlace}, DataW.TrodAll enc P W 0 spare held ts vs ds ps → (∀ p ∈ ps, p.block < W.heap.size) →
    DataW.TrodAll enc P W' 0 spare held ts vs ds ps
  | [], [], [], _, h, _ => h
  | _ :: _, _ :: _, _ :: _, _, ⟨p, q, h1, h2, e⟩, hs =>
    ⟨p, q, trod_stay h1 (fun x hx => hs x (by rw [e]; exact List.mem_append_left _ hx)) hB, trodAll_stay hB h2 (fun x hx => hs x (by rw [e]; exact List.mem_append_right _ hx)), e⟩

/-- What the program's table of types must be like (all of it by looking). -/
structure Laid (P : Program) : Prop where
  laid : laidOutB P = true
  maps : mapsRowed P = true
  full : ((List.range P.types.size).all fun t => match P.underlying t with | some (.slice e) => decide (0 < P.cellsOf e) | _ => true) = true

theorem args_stay (hP : Laid P) {ts : List TypeId} {vs : List Value} {ds : List (DataW H)} {ps : List MemPlace} (hts : ∀ t ∈ ts, t < P.types.size) (h : DataW.TrodAll enc P W 0 (fun _ => true) true ts vs ds ps) (hB : Below W.heap.size W W') :
    DataW.TrodAll enc P W' 0 (fun b => decide (b < W.heap.size)) true ts vs ds ps :=
  trodAll_stay hB (DataW.TrodAll.respare (kids_rows hP.laid hP.maps) (slices_full_of P hP.full) hts h (fun p hp => decide_eq_true (h.lt p hp))) (fun p hp => h.lt p hp)

/-- A law: a function of data that answers true. -/
theorem law_calls (hP : Laid P) {f : Nat} {fn : Func} {s : ChangeSpec} {args : Array Value} {ds gs : List (DataW H)} {before : List MemPlace} {avs : List AV} {tb : TypeId} (hPC : PC P f avs (.bool true))
    (hW : DataW.Whole enc P fn.params.toList s.vars false W args.toList ds gs before) (hsz : args.size = avs.length) (hvr : ∀ j, j < avs.length → VR nb (oldS W) W (args.getD j undef) (avs.getD j .any))
    (hvars : s.vars = []) (hts : ∀ t ∈ fn.params.toList, t < P.types.size) (hr : (s.fn H ds).results = [.lit (.bool true)]) (ha : (s.fn H ds).args = ds) (hv : (s.fn H ds).vars = [])
    (hres : fn.resultTypes = #[tb]) (htb : P.underlying tb = some .bool) :
    Calls P f args W fun e W' => ∃ v, e = .returned v ∧ s.post enc P fn false true false false W args v W' := by
  have hW' := hW
  obtain ⟨p, q, hA, hV, rfl, _, _⟩ := hW
  rw [hvars] at hV
  obtain ⟨rfl, rfl⟩ := trodVars_none hV
  refine (hPC W (oldS W) args (fun b o h => h) hsz hvr).mono fun e W' ⟨v, S', he, hB, _, _, _, hRV⟩ => ?_
  obtain ⟨b, hRV⟩ := hRV
  have hRV : VR nb S' W' v (.bool true) := hRV
  cases hRV
  refine ⟨_, he, ?_⟩
  refine ⟨ds, [], _, [], p, [], hW', ?_, ?_, ?_, hB.frame _, fun h => by cases h⟩
  · rw [List.append_nil, hr, hres]
    exact trodAll_mk1 (shut_bool htb _)
  · rw [List.append_nil, ha]
    exact args_stay hP hts hA hB
  · rw [List.append_nil, hv, hvars]
    rfl

theorem arg_struct {t : TypeId} {fs : Array Field} {v : Value} {base : Nat} (ht : P.underlying t = some (.struct fs)) (h : Value.okWide P W .any base t v) : ∃ cs, v = .agg cs := by
  simp only [Value.okWide, ht] at h
  exact ⟨_, h.choose_spec.1⟩

theorem arg_agg {cs : Array Value} {xs : List AV} (h : CV (oldS W) W cs.toList xs) : VR nb (oldS W) W (.agg cs) (.agg xs) := by
  have := h.agg
  simpa using this
theorem arg_one {v : Value} {x : AV} (h : CV (oldS W) W [v] [x]) : VR nb (oldS W) W v x := by
  cases h; assumption
end
end Go.Aw
