/- ParseNested: blocks may stand in one another 200 deep, values in brackets 198 deep, and no deeper: for every uint16. The statement of the seat's row, and its card. No condition beside the row's own: the listed variables hold what the program's text lays. -/
import Derived.Test.YtgdamcmfdhhheaaGreatDoorMT2
import Derived.Test.YtgdamcmfdhhheaaGreatDoorMN1
import Derived.SevenTiedAt
import Derived.ChangeMaps5
set_option linter.all false

namespace Go.Proofs.YtgdamcmfdhhheaaGreatDoor
open Go.ChangeShapes Go.WideShapes Go.ChangeAt Go.ChangeMaps Go.RowKit Bf


theorem nested_reads (os : Os) {H : Type} (enc : TypeId × Value → H) : ∃ places, DataW.whole enc Tryz.prog ((laidWorld os).forCall (fun _ _ => 0) ⟨#[], #[.int .u16 0], []⟩).memory (Tryz.f4).params.toList Rows.parseNestedSpec.vars false #[Value.int .u16 0].toList 8 = some ([.lit (.int .u16 0)], [], places) :=
  ⟨[], by kernel_rfl⟩

set_option maxRecDepth 100000 in
theorem nested_contract (H : Type) (enc : TypeId × Value → H) (W : World) (base : Nat) (args : Array Value) (ds gs : List (DataW H)) (before : List MemPlace)
    (hval : ∀ (j : Nat) t v, (Tryz.f4).params[j]? = some t → args[j]? = some v → Value.okWide Tryz.prog W .any base t v)
    (hW : DataW.Whole enc Tryz.prog (Tryz.f4).params.toList Rows.parseNestedSpec.vars false W args.toList ds gs before) (hg : Ground2 W) :
    Calls Tryz.prog 4 args W fun e W' => ∃ v, e = .returned v ∧ Rows.parseNestedSpec.post enc Tryz.prog Tryz.f4 false true false false W args v W' := by
  have hW' := hW
  obtain ⟨p, q, hA0, hV, rfl, hfz, hnd⟩ := hW
  have hA : DataW.TrodAll enc Tryz.prog W 0 (fun _ => true) true (Tryz.f4).params.toList args.toList ds p := hA0
  rw [Tryz.params4] at hA hval
  obtain ⟨v0, d0, rfl, rfl, h0⟩ := trodAll_one hA
  obtain ⟨rfl, rfl⟩ := trodVars_none hV
  obtain ⟨z, rfl, rfl, rfl, hz⟩ := open_int Tryz.underlying34 (hval 0 34 v0 rfl rfl) h0
  clear hA0
  simp only [List.append_nil] at hW'
  obtain ⟨m, rfl, hm⟩ : ∃ m : Nat, z = (m : Int) ∧ m < 65536 := by
    have h := hz
    simp only [Lit.wf, Bool.and_eq_true, decide_eq_true_eq] at h
    have h1 : (0 : Int) ≤ z := h.1
    have h2 : z ≤ 65535 := h.2
    exact ⟨z.toNat, by omega, by omega⟩
  have walk := nested_calls m hm (nested_is (m % 401) (by omega)) W hg
  have e1 : Rows.parseNestedSpec.fn H ([.lit (.int .u16 m)] ++ []) = { results := [.lit (.bool true)], args := [.lit (.int .u16 m)] } := by simp [Rows.parseNestedSpec]
  refine walk.mono fun e W' ⟨he, hb⟩ => ?_
  subst he
  refine ⟨_, rfl, _, _, _, [], [], [], hW', ?_, ?_, ?_, hb.frame _, fun h => by cases h⟩
  · rw [e1]; exact trodAll_mk1 (shut_bool Tryz.underlying4 true)
  · rw [e1]; exact trodAll_mk1 (shut_int Tryz.underlying34 hz)
  · rw [e1]; rfl

set_option maxRecDepth 100000 in
theorem nested_lifted (os : Os) (started : os.Started) (H : Type) (enc : TypeId × Value → H) (F : Stop.Interp) :
    ReturnsInHanded {} Tryz.checked os 4 .any ((OpenSpec.ofChange Rows.parseNestedSpec).preRow enc Tryz.prog Tryz.f4 Rows.parseNestedRow.domain false Rows.parseNestedRow.laid) (((OpenSpec.ofChange Rows.parseNestedSpec).at F).post enc Tryz.prog Tryz.f4 false true false false) := by
  obtain ⟨places, hx⟩ := nested_reads os enc
  refine returnsInHanded_of_row (C := Tryz.checked) (s := OpenSpec.ofChange Rows.parseNestedSpec) own started (by kernel_rfl) Tryz.func4
    (witness_row_at (enc := enc) (C := Tryz.checked) false (laidWorld os) #[.int .u16 0] rfl (by kernel_rfl) (by kernel_rfl) (by kernel_rfl)
      (OpenSpec.preRow_of_cond 8 hx (by kernel_rfl) (fun k hk => by cases hk) (by kernel_rfl) (laid_met os _))) ?_
  intro W base args ds gs before hval hW _ _ _ hL hsh _
  exact nested_contract H enc W base args ds gs before hval hW (ground_of hL hsh)

theorem nested_said : Rows.ParseNestedSaid :=
  OpenClaim.holds_of_cond 4 Tryz.f4 rfl rfl rfl rfl rfl rfl rfl ⟨rfl, rfl, rfl, rfl, rfl⟩ rfl rfl rfl rfl rfl (by kernel_rfl) Tryz.func4 (by kernel_rfl)
    (of_decide_eq_true (by kernel_rfl)) (by unfold Func.isWrapper; rw [if_neg (by decide +kernel)]; exact ⟨rfl, rfl⟩)
    (fun os started H enc _ F => by rw [OpenClaim.pre_eq_preRow]; exact nested_lifted os started H enc F)

theorem nested_plain (f : FuncId) (fn : Func) (hf : Tryz.pinned.checked.prog.funcNamed "bailiff/bailifflaw04.ParseNested" = some f) (hfn : Tryz.pinned.checked.prog.funcs[f]? = some fn) :
    true = Tryz.pinned.checked.prog.looks [] ∧ ∀ (j : Nat) t, fn.params[j]? = some t → Tryz.pinned.checked.prog.wantsStandIn t = false := by
  obtain rfl : f = 4 := Option.some.inj ((show Tryz.prog.funcNamed "bailiff/bailifflaw04.ParseNested" = some 4 by kernel_rfl).symm.trans hf) |>.symm
  obtain rfl : fn = Tryz.f4 := (Option.some.inj (Tryz.func4.symm.trans hfn)).symm
  refine ⟨by kernel_rfl, fun j t ht => ?_⟩
  rw [Tryz.params4] at ht
  have hm : t ∈ [34] := by simpa using Array.mem_of_getElem? ht
  have hall : ([34].all fun u => !Tryz.prog.wantsStandIn u) = true := by kernel_rfl
  exact (show Tryz.prog.wantsStandIn t = false by simpa using List.all_eq_true.1 hall t hm)

theorem nested_card : Rows.ParseNestedCardSaid :=
  Claim7.holds_tied_plain_at .later [] _ _ _ _ nested_said (fun _ h => by cases h) (by kernel_rfl) (fun _ h => by cases h) parseNested_row_tie rfl ⟨rfl, rfl⟩ (by kernel_rfl) rfl nested_plain (by kernel_rfl)
end Go.Proofs.YtgdamcmfdhhheaaGreatDoor
