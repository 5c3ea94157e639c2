/- MultiBounds is proved here: for every input of bulk at most 1048576 the law returns true, and its arguments read as they did. Condition: the bound. -/
import Derived.Test.YtchoenfclfafiaaFrame
import Derived.Test.YtchoenfclfafiaaMulX
import Derived.Test.YtchoenfclfafiaaOpenU
namespace Go.Proofs.Ytchoenfclfafiaa.multiBounds
open Go.ChangeShapes Go.WideShapes Go.ChangeAt Go.RowKit
open Go.ChangeMaps (open_string)

set_option maxRecDepth 100000 in
theorem contract (H : Type) (enc : TypeId × Value → H) (W : World) (base : Nat) (args : Array Value) (ds gs : List (DataW H)) (before : List MemPlace)
    (hval : ∀ (j : Nat) t v, Try.f6.params[j]? = some t → args[j]? = some v → Value.okWide Try.prog W .any base t v)
    (hW : DataW.Whole enc Try.prog Try.f6.params.toList Rows.multiBoundsSpec.vars false W args.toList ds gs before)
    (hk : Rows.uptoSmall H (ds ++ gs) = true)
    (hsh : W.ShapedOpen Try.prog) :
    Calls Try.prog 6 args W fun e W' => ∃ v, e = .returned v ∧ Rows.multiBoundsSpec.post enc Try.prog Try.f6 false true false false W args v W' := by
  have hW' := hW
  obtain ⟨p, q, hA0, hV, rfl, hfz, hnd⟩ := hW
  have hA : DataW.TrodAll enc Try.prog W 0 (fun _ => true) true Try.f6.params.toList args.toList ds p := hA0
  have HK : Hid (Rows.uptoBulkAll (ds ++ gs) ≤ 1048576) := upto_bound hk
  clear hk
  rw [Try.params6] at hA hval
  obtain ⟨v0, vs0, d0, ds0, p0, q0, hargs, rfl, rfl, h0, r0⟩ := trodAll_cons hA
  obtain ⟨v1, vs1, d1, ds1, p1, q1, rfl, rfl, rfl, h1, r1⟩ := trodAll_cons r0
  obtain ⟨rfl, rfl, rfl⟩ := trodAll_nil r1
  obtain rfl : args = #[v0, v1] := by cases args; simp_all
  obtain ⟨rfl, rfl⟩ := trodVars_none hV
  have hb0 : Rows.uptoBulk d0 ≤ 1048576 := Nat.le_trans (part_le (l := [d0, d1] ++ []) (by simp)) HK.out
  have hb1 : Rows.uptoBulk d1 ≤ 1048576 := Nat.le_trans (part_le (l := [d0, d1] ++ []) (by simp)) HK.out
  have hall := HK.out
  rw [List.append_nil] at hall
  simp only [Rows.uptoBulkAll] at hall
  obtain ⟨a0, rfl, rfl, rfl, y0⟩ := open_string Try.underlying9 (hval 0 9 v0 rfl rfl) h0
  have l0 : a0.data.toList.length = a0.size := by simp
  simp only [Rows.uptoBulk] at hb0
  have z0 : a0.size ≤ 1048576 := by omega
  obtain ⟨a1, rfl, rfl, rfl, y1⟩ := open_string Try.underlying9 (hval 1 9 v1 rfl rfl) h1
  have l1 : a1.data.toList.length = a1.size := by simp
  simp only [Rows.uptoBulk] at hb1
  have z1 : a1.size ≤ 1048576 := by omega
  refine (multiBounds_any a0 a1 W z0 z1 (Try.laysM145.s1_3 W hsh)).mono fun e W' ⟨he, hb⟩ => ?_
  subst he
  exact ⟨_, rfl, law_post laidOut (by decide +kernel) rfl Try.underlying4 rfl hW' hb rfl⟩

set_option maxRecDepth 100000 in
theorem lifted (os : Os) (started : os.Started) (H : Type) (enc : TypeId × Value → H) (F : Stop.Interp) :
    ReturnsInHanded {} Try.checked os 6 .any ((Rows.OpenSpec.upto Rows.multiBoundsSpec).pre6 enc Try.prog Try.f6 Rows.multiBoundsUptoRow.domain false) (((Rows.OpenSpec.upto Rows.multiBoundsSpec).at F).post enc Try.prog Try.f6 false true false false) := by
  refine handed_of_cond (C := Try.checked) (s := Rows.OpenSpec.upto Rows.multiBoundsSpec) (k := Rows.uptoSmall) rfl own started (by kernel_rfl) Try.func6
    (OpenSpec.witness (enc := enc) (C := Try.checked) (s := Rows.OpenSpec.upto Rows.multiBoundsSpec) (k := Rows.uptoSmall) rfl false ⟨#[], #[.string ByteArray.empty, .string ByteArray.empty], []⟩ 8 (by kernel_rfl) (by kernel_rfl) (by kernel_rfl)
      (x := ([.lit (.string []), .lit (.string [])], [], [])) (by kernel_rfl) rfl (by kernel_rfl)) ?_
  intro W base args ds gs before hval hW hk _ hsh
  exact contract H enc W base args ds gs before hval hW hk hsh

theorem over : Rows.multiBoundsUptoRow.holds Try.pinned (Rows.OpenSpec.upto Rows.multiBoundsSpec) :=
  OpenClaim.holds_of_cond 6 Try.f6 rfl rfl rfl rfl rfl rfl rfl ⟨rfl, rfl, rfl, rfl, rfl⟩ rfl rfl rfl rfl rfl (by kernel_rfl) Try.func6 (by kernel_rfl)
    (of_decide_eq_true (by kernel_rfl)) (by unfold Func.isWrapper; first | (rw [if_pos (by decide +kernel)]; kernel_rfl) | (rw [if_neg (by decide +kernel)]; exact ⟨rfl, rfl⟩))
    (fun os started H enc _ F => lifted os started H enc F)

theorem proved : Rows.MultiBoundsUptoSaid :=
  over
#print axioms proved
end Go.Proofs.Ytchoenfclfafiaa.multiBounds
