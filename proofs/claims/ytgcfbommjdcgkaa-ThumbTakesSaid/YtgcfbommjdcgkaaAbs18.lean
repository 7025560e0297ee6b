/-
  From a function's contract to a row.
-/
import Derived.Test.YtgcfbommjdcgkaaAbs17
set_option linter.unusedSimpArgs false
set_option linter.unusedVariables false
namespace Go.Abs
open Go.ChangeShapes Go.RowKit

abbrev SpecP := List AV → Option AV
abbrev SpecM := List AV → AHeap → Option (AV × AHeap)

def OkArgs (P : Program) (d : Nat) : List TypeId → List AV → Prop
  | [], [] => True
  | t :: ts, a :: as => OkArg P d t a ∧ OkArgs P d ts as
  | _, _ => False

section
variable {H : Type} {enc : TypeId × Value → H} {P : Program} {w : World}

theorem open_arg {D base : Nat} {t : TypeId} {v : Value} {d : DataW H} {p : List MemPlace} (hp : plainTy P D t = true) (hv : Value.okWide P w .any base t v)
    (h : DataW.Trod enc P w 0 (fun _ => true) true t v d p) (hw : ∀ n, n ∈ d.weights P t → n ≤ reachBytes) : ∃ a, RV w (fun _ => False) (fun _ => False) id a v ∧ OkArg P D t a := by
  obtain ⟨fuel, hf⟩ := h
  obtain ⟨as, h1, h2, h3, h4⟩ := trod_flat D fuel t _ (d, p) hp hf hw
  unfold OkArg
  unfold Value.okWide at hv
  have one : P.cellsOf t = 1 → (∀ vs, v ≠ .agg vs) → ∃ a, as = [a] ∧ RV w (fun _ => False) (fun _ => False) id a v := by
    intro hc hna
    have hvc : v.cells = #[v] := by cases v <;> first | rfl | exact absurd rfl (hna _)
    rw [hvc] at h1
    match as, h1, h4 with
    | [a], h1, _ => exact ⟨a, rfl, h1.2 0 a v rfl rfl⟩
    | [], h1, _ => have := h1.1; simp at this
    | _ :: _ :: _, h1, _ => have := h1.1; simp at this
  have agg : (∃ cs, v = .agg cs ∧ cs.size = P.cellsOf t ∧ Row.okWide P w .any base t cs) → ∃ a, RV w (fun _ => False) (fun _ => False) id a v ∧ ∃ cs, a = .agg cs ∧ OkCells P D t cs := by
    rintro ⟨cs, rfl, _, _⟩
    refine ⟨.agg as, .agg as cs ?_ (fun i a v q1 q2 => h1.2 i a v q1 (by simpa [Value.cells] using q2)), as, rfl, h3⟩
    have := h1.1
    simpa [Value.cells] using this
  split at hv
  · rename_i hu; rw [hu]; exact agg hv
  · rename_i hu; rw [hu]; exact agg hv
  · rename_i hns hna
    have hcells : P.cellsOf t = 1 := by
      cases D with
      | zero => simp [plainTy] at hp
      | succ D =>
        unfold plainTy at hp
        split at hp
        all_goals first | (simp only [Bool.and_eq_true, beq_iff_eq] at hp; exact hp.1.1) | (simp only [beq_iff_eq] at hp; exact hp) | skip
        · rename_i fs hu; exact (hns fs hu).elim
        · rename_i n e hu; exact (hna n e hu).elim
        · cases hp
    have hnagg : ∀ vs, v ≠ .agg vs := by
      rintro vs rfl
      cases D with
      | zero => simp [plainTy] at hp
      | succ D =>
        unfold plainTy at hp
        unfold OkCells at h3
        simp only [Value.cells] at h1 hf
        split at hp
        all_goals rename_i hu
        all_goals first | (cases hp; done) | skip
        all_goals
          unfold Cell.okWide at hv
          rw [hu] at hv
          simp [Cell.ok, hu] at hv
        all_goals skip
    obtain ⟨a, rfl, ha⟩ := one hcells hnagg
    refine ⟨a, ha, ?_⟩
    split
    · rename_i fs hu; exact (hns fs hu).elim
    · rename_i n e hu; exact (hna n e hu).elim
    · exact h3

theorem open_args {D base : Nat} : ∀ (ts : List TypeId) (vs : List Value) (ds : List (DataW H)) (ps : List MemPlace), DataW.TrodAll enc P w 0 (fun _ => true) true ts vs ds ps →
    (∀ (j : Nat) t v, ts[j]? = some t → vs[j]? = some v → Value.okWide P w .any base t v) → (∀ t, t ∈ ts → plainTy P D t = true) → (∀ n, n ∈ DataW.weightsEach P ts ds → n ≤ reachBytes) →
    ∃ as, RL0 w as vs ∧ OkArgs P D ts as
  | [], vs, ds, ps, h, _, _, _ => by
    obtain ⟨rfl, _, _⟩ := trodAll_nil h
    exact ⟨[], ⟨rfl, by simp⟩, trivial⟩
  | t :: ts, vs, ds, ps, h, hv, hp, hw => by
    obtain ⟨v, vs', d, ds', p, q, rfl, rfl, rfl, h1, h2⟩ := trodAll_cons h
    simp only [DataW.weightsEach, List.mem_append] at hw
    obtain ⟨a, q1, q2⟩ := open_arg (hp t (by simp)) (hv 0 t v rfl rfl) h1 fun n hn => hw n (.inl hn)
    obtain ⟨as, p1, p2⟩ := open_args ts vs' ds' q h2 (fun j t v e1 e2 => hv (j + 1) t v (by simpa using e1) (by simpa using e2)) (fun t ht => hp t (by simp [ht])) fun n hn => hw n (.inr hn)
    refine ⟨a :: as, ⟨by simp [p1.1], fun i b u e1 e2 => ?_⟩, q2, p2⟩
    cases i with
    | zero => simp at e1 e2; subst e1 e2; exact q1
    | succ i => exact p1.2 i b u (by simpa using e1) (by simpa using e2)

theorem back_args (hl : laidOutB P = true) {w' : World} (hb : Below w.heap.size w w') : ∀ (ts : List TypeId) (vs : List Value) (ds : List (DataW H)) (ps : List MemPlace), (∀ t, t ∈ ts → P.readableRec t = true ∧ t < P.types.size) →
    DataW.TrodAll enc P w 0 (fun _ => true) true ts vs ds ps → DataW.TrodAll enc P w' 0 (fun b => decide (b < w.heap.size)) true ts vs ds ps
  | [], vs, ds, ps, _, h => by
    obtain ⟨rfl, rfl, rfl⟩ := trodAll_nil h
    exact trodAll_mk0
  | t :: ts, vs, ds, ps, hr, h => by
    obtain ⟨v, vs', d, ds', p, q, rfl, rfl, rfl, h1, h2⟩ := trodAll_cons h
    refine trodAll_cons_mk (Below.trod hl (hr t (by simp)).1 (hr t (by simp)).2 h1 hb ?_) (back_args hl hb ts vs' ds' q (fun t ht => hr t (by simp [ht])) h2)
    obtain ⟨n, hn⟩ := h1
    exact DataW.trod_lt n _ _ _ hn

theorem trodAll_length {ts : List TypeId} {vs : List Value} {ds : List (DataW H)} {ps : List MemPlace} (h : DataW.TrodAll enc P w 0 (fun _ => true) true ts vs ds ps) : ds.length = ts.length := by
  induction ts generalizing vs ds ps with
  | nil => obtain ⟨_, rfl, _⟩ := trodAll_nil h; rfl
  | cons t ts ih =>
    obtain ⟨v, vs', d, ds', p, q, rfl, rfl, rfl, h1, h2⟩ := trodAll_cons h
    simp [ih h2]
end

/-- A row: what the function answers, whatever comes in. -/
theorem law_row {H : Type} {enc : TypeId × Value → H} {C : Checked} {os : Os} {f : FuncId} {fn : Func} {s : ChangeSpec} {spec : List AV → Option AV} {D : Nat} {rt : TypeId} {conds : List PathCond}
    (own : ownKnob C.prog.godebug = none) (started : os.Started) (noInit : C.prog.inits.idxOf? f = none) (hfn : C.prog.funcs[f]? = some fn)
    (witness : ∃ (w : World) (tape : Tape) (i : Input), w.os = os ∧ (w.forCall tape i).Shaped C.prog ∧ i.vars = [] ∧ Input.okWide C.prog (w.forCall tape i) .any w.heap.size f i ∧
      s.pre6 enc C.prog fn conds false (w.forCall tape i).memory i.args ∧ Assume.holds {} C.prog (lone (Frame.enter C.prog f i.args .normal) [] (w.forCall tape i)))
    (hs : Sound C.prog f (.pure false spec)) (hl : laidOutB C.prog = true) (hplain : fn.params.toList.all (fun t => plainTy C.prog D t && C.prog.readableRec t && decide (t < C.prog.types.size)) = true)
    (hvars : s.vars = []) (hres : fn.resultTypes = #[rt]) (hrt : C.prog.underlying rt = some .bool) (hspec : ∀ ds : List (DataW H), ds.length = fn.params.size → s.fn H ds = { results := [.lit (.bool true)], args := ds })
    (hlaw : ∀ as, OkArgs C.prog D fn.params.toList as → spec as = some (.bool true)) :
    ReturnsInHanded {} C os f .any (s.pre6 enc C.prog fn conds false) (s.post enc C.prog fn false true false false) := by
  refine returnsInHanded_of_change_sized own started noInit hfn witness ?_
  intro W base args ds gs before hval hW _ hsz _
  have hW' := hW
  obtain ⟨p, q, hA, hV, rfl, _, _⟩ := hW
  rw [hvars] at hV
  obtain ⟨rfl, rfl⟩ := trodVars_none hV
  have hvt : s.plain.varTypes C.prog = [] := by
    simp [ChangeSpec.plain, DataSpec.varTypes, hvars]
  rw [hvt] at hsz
  simp only [List.append_nil] at hsz
  simp only [List.all_eq_true, Bool.and_eq_true, decide_eq_true_eq] at hplain hsz
  obtain ⟨as, h1, h2⟩ := open_args (D := D) (base := base) _ _ ds p hA (fun j t v e1 e2 => hval j t v (by simpa using e1) (by simpa using e2)) (fun t ht => (hplain t ht).1.1) (fun n hn => by simpa using hsz n hn)
  refine (hs.2 as _ (hlaw as h2) W (fun _ => False) args (fun _ h => h.elim) h1).mono ?_
  rintro e W' ⟨v, rfl, hb, hv⟩
  cases hv
  have hlen : ds.length = fn.params.size := by simpa using trodAll_length hA
  have hfn' := hspec (ds ++ []) (by simpa using hlen)
  refine ⟨_, rfl, ds, [], p ++ [], [], p, [], hW', ?_, ?_, ?_, hb.frame _, fun h => by cases h⟩
  · rw [hfn', hres]
    exact trodAll_mk1 (shut_bool hrt _)
  · rw [hfn']
    simp only [List.append_nil]
    exact back_args hl hb _ _ ds p (fun t ht => ⟨(hplain t ht).1.2, (hplain t ht).2⟩) hA
  · rw [hfn', hvars]; rfl
end Go.Abs
