/- Part 13 of the proof: lemmas and walks that the last texts use. -/
import Derived.Test.YtdkbfljhfhjofaaGreatDoorM01
import Derived.Test.YtdkbfljhfhjofaaGreatDoorM04
import Derived.Test.YtdkbfljhfhjofaaGreatDoorM05
import Derived.Test.YtdkbfljhfhjofaaGreatDoorM11
import Derived.Test.YtdkbfljhfhjofaaGreatDoorM12
import Derived.Deep.Cut
import Derived.Deep.RegionHeld3
namespace Go.Proofs.YtdkbfljhfhjofaaGreatDoor
open Go.RowKit
/-- A rule whose lists are rows of the call's own. -/
structure RuOwn (w : World) (base : Nat) (x : RuM) : Prop where
  vars : OwnG rowRuV w base (.slice x.vA x.r.vars.length x.vc) x.r.vars
  pipe : OwnK w base (.slice x.pA x.r.pipe.length x.pc) x.r.pipe
  acts : OwnG rowRuA w base (.slice x.aA x.r.acts.length x.ac) x.r.acts
theorem RuOwn.below {w w' : World} {base : Nat} {x : RuM} (h : RuOwn w base x) (hb : Below w.heap.size w w') : RuOwn w' base x := ⟨h.vars.below hb, h.pipe.below hb, h.acts.below hb⟩
theorem RuOwn.ruIn {w : World} {base : Nat} {x : RuM} (h : RuOwn w base x) : RuIn w w.heap.size x := by
  refine ⟨?_, ?_, ?_⟩
  · obtain ⟨A, c, e, hs⟩ := h.vars.form
    injection e with e1 e2 e3
    rw [e1]; exact hs
  · obtain ⟨A, c, e, _, hs⟩ := h.pipe.form
    injection e with e1 e2 e3
    rw [e1]; exact hs
  · obtain ⟨A, c, e, hs⟩ := h.acts.form
    injection e with e1 e2 e3
    rw [e1]; exact hs
/-- Nine cells of a rule, known whole. -/
def R9 (w : World) (g : Nat) (a0 a1 a2 a3 a4 a5 a6 a7 a8 : Value) : Prop := w.heap[g]? = some (.cells #[a0, a1, a2, a3, a4, a5, a6, a7, a8] 39 (0, 0))
section
variable {w w' : World} {g B : Nat} {a0 a1 a2 a3 a4 a5 a6 a7 a8 : Value}
theorem R9.cell (h : R9 w g a0 a1 a2 a3 a4 a5 a6 a7 a8) (j : Nat) : w.cell? ⟨g, j, none⟩ = (#[a0, a1, a2, a3, a4, a5, a6, a7, a8] : Array Value)[j]? := cell_of_row w g j _ _ (0, 0) h
theorem R9.free (h : R9 w g a0 a1 a2 a3 a4 a5 a6 a7 a8) (j : Nat) : w.frozen? ⟨g, j, none⟩ = false := by unfold R9 at h; simp [World.frozen?, h]
theorem R9.lt (h : R9 w g a0 a1 a2 a3 a4 a5 a6 a7 a8) : g < w.heap.size := by
  unfold R9 at h
  rw [Array.getElem?_eq_some_iff] at h
  exact h.1
theorem R9.far (h : R9 w g a0 a1 a2 a3 a4 a5 a6 a7 a8) {q : Nat} (hne : g ≠ q) (j : Nat) (u : Value) : R9 (w.setCell ⟨q, j, none⟩ u) g a0 a1 a2 a3 a4 a5 a6 a7 a8 := (Below.heap_setCell w ⟨q, j, none⟩ u g hne).trans h
theorem R9.below (h : R9 w g a0 a1 a2 a3 a4 a5 a6 a7 a8) (hb : Below w.heap.size w w') : R9 w' g a0 a1 a2 a3 a4 a5 a6 a7 a8 := (hb.block g h.lt).trans h
theorem R9.put0 (h : R9 w g a0 a1 a2 a3 a4 a5 a6 a7 a8) (u : Value) : R9 (w.setCell ⟨g, 0, none⟩ u) g u a1 a2 a3 a4 a5 a6 a7 a8 := by unfold R9 at h ⊢; simp [World.setCell, Array.getElem?_modify, h]
theorem R9.put1 (h : R9 w g a0 a1 a2 a3 a4 a5 a6 a7 a8) (u : Value) : R9 (w.setCell ⟨g, 1, none⟩ u) g a0 u a2 a3 a4 a5 a6 a7 a8 := by unfold R9 at h ⊢; simp [World.setCell, Array.getElem?_modify, h]
theorem R9.put2 (h : R9 w g a0 a1 a2 a3 a4 a5 a6 a7 a8) (u : Value) : R9 (w.setCell ⟨g, 2, none⟩ u) g a0 a1 u a3 a4 a5 a6 a7 a8 := by unfold R9 at h ⊢; simp [World.setCell, Array.getElem?_modify, h]
theorem R9.put3 (h : R9 w g a0 a1 a2 a3 a4 a5 a6 a7 a8) (u : Value) : R9 (w.setCell ⟨g, 3, none⟩ u) g a0 a1 a2 u a4 a5 a6 a7 a8 := by unfold R9 at h ⊢; simp [World.setCell, Array.getElem?_modify, h]
theorem R9.put4 (h : R9 w g a0 a1 a2 a3 a4 a5 a6 a7 a8) (u : Value) : R9 (w.setCell ⟨g, 4, none⟩ u) g a0 a1 a2 a3 u a5 a6 a7 a8 := by unfold R9 at h ⊢; simp [World.setCell, Array.getElem?_modify, h]
theorem R9.put5 (h : R9 w g a0 a1 a2 a3 a4 a5 a6 a7 a8) (u : Value) : R9 (w.setCell ⟨g, 5, none⟩ u) g a0 a1 a2 a3 a4 u a6 a7 a8 := by unfold R9 at h ⊢; simp [World.setCell, Array.getElem?_modify, h]
theorem R9.put6 (h : R9 w g a0 a1 a2 a3 a4 a5 a6 a7 a8) (u : Value) : R9 (w.setCell ⟨g, 6, none⟩ u) g a0 a1 a2 a3 a4 a5 u a7 a8 := by unfold R9 at h ⊢; simp [World.setCell, Array.getElem?_modify, h]
theorem R9.put7 (h : R9 w g a0 a1 a2 a3 a4 a5 a6 a7 a8) (u : Value) : R9 (w.setCell ⟨g, 7, none⟩ u) g a0 a1 a2 a3 a4 a5 a6 u a8 := by unfold R9 at h ⊢; simp [World.setCell, Array.getElem?_modify, h]
theorem R9.put8 (h : R9 w g a0 a1 a2 a3 a4 a5 a6 a7 a8) (u : Value) : R9 (w.setCell ⟨g, 8, none⟩ u) g a0 a1 a2 a3 a4 a5 a6 a7 u := by unfold R9 at h ⊢; simp [World.setCell, Array.getElem?_modify, h]
theorem R9.new (w : World) : R9 (w.alloc (.cells #[.int .i64 0, .int .i64 0, .slice none 0 0, .slice none 0 0, .bool false, .int .i64 0, .string (ByteArray.mk #[]), .slice none 0 0, .bool false] 39)) w.heap.size (.int .i64 0) (.int .i64 0) (.slice none 0 0) (.slice none 0 0) (.bool false) (.int .i64 0) (.string (ByteArray.mk #[])) (.slice none 0 0) (.bool false) := heap_alloc_new w _
end
/-- What read tells. -/
def RdPost (ws : List (List UInt8)) (w : World) (e : Ending) (w' : World) : Prop :=
  ∃ (x : RuM) (code : Int), e = .returned (.tuple #[.agg (cellsRu x).toArray, .int .i64 code]) ∧ (code = 0 → RuleIs ws x.r ∧ RuOwn w' w.heap.size x ∧ RuSmall x.r) ∧ (code ≠ 0 → ∀ y, ¬ RuleIs ws y) ∧ Below w.heap.size w w'
def zRule : RuM := ⟨⟨0, 0, [], [], false, 0, ByteArray.mk #[], [], false⟩, none, 0, none, 0, none, 0⟩
theorem read_bad (ws : List ByteArray) (h : ws.length ≠ 8 ∨ (∃ s0, ws[0]? = some s0 ∧ s0.data.toList ≠ ruleW ∧ s0.data.toList ≠ chainW)) : ∀ y, ¬ RuleIs (ws.map (·.data.toList)) y := fun y hy => by
  rcases h with h | ⟨s0, h0, h1, h2⟩
  · exact h (by have := hy.len; rwa [List.length_map] at this)
  · have hw := hy.word
    rw [List.getD_eq_getElem?_getD, List.getElem?_map, h0] at hw
    simp only [Option.map_some, Option.getD_some] at hw
    cases hc : y.chain with
    | true => rw [hc, if_pos rfl] at hw; exact h2 hw
    | false => rw [hc, if_neg (by decide)] at hw; exact h1 hw
theorem opR_yes {s r : List UInt8} (h : s = 33 :: r) : opR s = (true, placeL opWs 12 r) := by subst h; rfl
theorem opR_no {s : List UInt8} (h : s.head? ≠ some 33) : opR s = (false, placeL opWs 12 s) := by
  unfold opR
  split
  · exact absurd rfl h
  · rfl
theorem ruOwn_farS {w : World} {base size n g : Nat} {e : TypeId} {v : Value} {xs : List Value} (h : w.ownsRow base e size v n xs) (hg : g < base) (j : Nat) (u : Value) : (w.setCell ⟨g, j, none⟩ u).ownsRow base e size v n xs :=
  ownsRow_setCell_other (a := ⟨g, j, none⟩) h (fun e => by have := (World.ownsRow.lt h g e).1; omega) u
theorem rlV_form {s : List UInt8} {w w' : World} {e : Ending} (h : RlVPost s w e w') : ∃ A c l b, e = .returned (.tuple #[.slice A l.length c, .bool b]) ∧ OwnG rowRuV w' w.heap.size (.slice A l.length c) l ∧ l.length ≤ 8193 ∧ (b = true → allO varR (splL 44 s) = some l) ∧ (b = false → allO varR (splL 44 s) = none) ∧ Below w.heap.size w w' := by
  obtain ⟨⟨l, v, h1, rfl, h3, h4⟩ | ⟨h1, rfl⟩, hb⟩ := h
  · obtain ⟨A, c, rfl, _⟩ := h3.form
    exact ⟨A, c, l, true, rfl, h3, h4, fun _ => h1, fun e => (by cases e), hb⟩
  · exact ⟨none, 0, [], false, rfl, OwnG.nil _ _ _, Nat.zero_le _, fun e => (by cases e), fun _ => h1, hb⟩
theorem rlA_form {s : List UInt8} {w w' : World} {e : Ending} (h : RlAPost s w e w') : ∃ A c l b, e = .returned (.tuple #[.slice A l.length c, .bool b]) ∧ OwnG rowRuA w' w.heap.size (.slice A l.length c) l ∧ l.length ≤ 8193 ∧ (b = true → allO actR (splL 44 s) = some l) ∧ (b = false → allO actR (splL 44 s) = none) ∧ Below w.heap.size w w' := by
  obtain ⟨⟨l, v, h1, rfl, h3, h4⟩ | ⟨h1, rfl⟩, hb⟩ := h
  · obtain ⟨A, c, rfl, _⟩ := h3.form
    exact ⟨A, c, l, true, rfl, h3, h4, fun _ => h1, fun e => (by cases e), hb⟩
  · exact ⟨none, 0, [], false, rfl, OwnG.nil _ _ _, Nat.zero_le _, fun e => (by cases e), fun _ => h1, hb⟩
theorem pp_form {s : List UInt8} {w w' : World} {e : Ending} (h : ParsePost s w e w') : ∃ A c l code, e = .returned (.tuple #[.slice A l.length c, .int .i64 code]) ∧ OwnK w' w.heap.size (.slice A l.length c) l ∧ (code = 0 → ParseIs s l) ∧ (code ≠ 0 → ∀ ks, ¬ ParseIs s ks) ∧ Below w.heap.size w w' := by
  obtain ⟨v, code, rfl, h1, h2, hb⟩ := h
  by_cases hc : code = 0
  · obtain ⟨ks, hO, hP⟩ := h1 hc
    obtain ⟨A, c, rfl, _, _⟩ := hO.form
    exact ⟨A, c, ks, code, rfl, hO, fun _ => hP, fun e => absurd hc e, hb⟩
  · obtain ⟨rfl, hn⟩ := h2 hc
    exact ⟨none, 0, [], code, rfl, OwnK.nil _ _, fun e => absurd e hc, fun _ => hn, hb⟩
theorem uq_form {s : List UInt8} {w w' : World} {e : Ending} (h : ResPost (strRes 3 (unquoteL s)) w e w') : ∃ (U : ByteArray) (code : Int), e = .returned (.tuple #[.string U, .int .i64 code]) ∧ (code = 0 → unquoteL s = some U.data.toList) ∧ (code ≠ 0 → unquoteL s = none) ∧ Below w.heap.size w w' := by
  obtain ⟨he, hb⟩ := h
  cases hu : unquoteL s with
  | some l => rw [hu] at he; exact ⟨bs l, 0, he, fun _ => rfl, fun e => absurd rfl e, hb⟩
  | none => rw [hu] at he; exact ⟨bs [], 3, he, fun e => absurd e (by decide), fun _ => rfl, hb⟩
theorem varR_size {s : List UInt8} {v : RuVar} (h : varR s = some v) : v.n.size ≤ s.length := by
  unfold varR at h
  have hm : (modeOf s).2.length ≤ s.length := by unfold modeOf; split <;> simp
  have hc := (cut_len (modeOf s).2 [58]).2
  dsimp only at h
  split at h
  · have e := Option.some.inj h
    subst e
    rw [bs_size]
    omega
  · cases h
theorem allO_all {α β : Type} {f : α → Option β} : ∀ {l : List α} {r : List β}, allO f l = some r → ∀ y ∈ r, ∃ x ∈ l, f x = some y
  | [], r, h, y, hy => by have e : [] = r := Option.some.inj h; subst e; cases hy
  | a :: l, r, h, y, hy => by
    unfold allO at h
    split at h
    · rename_i b q hb hq
      have e := Option.some.inj h
      subst e
      rcases List.mem_cons.1 hy with rfl | hy
      · exact ⟨a, by simp, hb⟩
      · obtain ⟨x, hx, hf⟩ := allO_all hq y hy
        exact ⟨x, by simp [hx], hf⟩
    · cases h
theorem cells8 {α : Type} {l : List α} (h : l.length = 8) : ∃ a b c d e f g i, l = [a, b, c, d, e, f, g, i] := by
  match l, h with
  | [a, b, c, d, e, f, g, i], _ => exact ⟨a, b, c, d, e, f, g, i, rfl⟩
theorem read_parts {s0 s1 s2 s3 s4 s5 s6 s7 : ByteArray} {y : RuOne} (h : RuleIs ([s0, s1, s2, s3, s4, s5, s6, s7].map (·.data.toList)) y) : numB 999999999 s1.data.toList = y.id ∧ 0 ≤ y.id ∧ numB 999999999 s2.data.toList = y.phase ∧ 0 ≤ y.phase ∧
    allO varR (splL 44 s3.data.toList) = some y.vars ∧ ParseIs s4.data.toList y.pipe ∧ opR s5.data.toList = (y.no, y.op) ∧ y.op ≠ 0 ∧ unquoteL s6.data.toList = some y.arg.data.toList ∧ allO actR (splL 44 s7.data.toList) = some y.acts :=
  ⟨h.id, h.id0, h.phase, h.phase0, h.vars, h.pipe, h.op, h.op0, h.arg, h.acts⟩
theorem parseIs_len {s : List UInt8} {l : List Int} (h : ParseIs s l) : l.length ≤ 8 := by
  rcases h with ⟨_, rfl⟩ | ⟨_, _, h, _⟩
  · exact Nat.zero_le _
  · exact h
theorem read_small {s3 s6 : ByteArray} {lv : List RuVar} {lp : List Int} {la : List RuAct} {U : ByteArray} {ID PH OP : Int} {NO CH : Bool} (h3 : s3.size ≤ 8192) (h6 : s6.size ≤ 8192) (hlv : lv.length ≤ 8193) (hla : la.length ≤ 8193)
    (hv : allO varR (splL 44 s3.data.toList) = some lv) (hp : lp.length ≤ 8) (hu : unquoteL s6.data.toList = some U.data.toList) : RuSmall ⟨ID, PH, lv, lp, NO, OP, U, la, CH⟩ := by
  refine ⟨by show lv.length ≤ _; omega, fun v hv' => ?_, by show lp.length ≤ _; omega, ?_, by show la.length ≤ _; omega⟩
  · obtain ⟨x, hx, hf⟩ := allO_all hv v hv'
    have h1 := varR_size hf
    have h2 := ruSpl_small 44 _ _ hx
    simp at h2
    omega
  · have := unquote_len _ _ hu
    simp at this
    show U.size ≤ _
    omega
set_option maxRecDepth 100000 in
set_option maxHeartbeats 3200000 in
theorem read_any (ws : List ByteArray) (A : Option Addr) (c : Nat) (w : World) (h : Sl w w.heap.size 1 A ws.length (ws.map Value.string)) (hsz : ∀ s ∈ ws, s.size ≤ 8192) (hl : ws.length ≤ 8193) (hlib : LibOk w) :
    Calls Tryz.prog 26 #[.slice A ws.length c] w (RdPost (ws.map (·.data.toList)) w) := by
  obtain ⟨W0, hW0⟩ : ∃ W0, W0 = (w.alloc (.cells #[.int .i64 0, .int .i64 0, .slice none 0 0, .slice none 0 0, .bool false, .int .i64 0, .string (ByteArray.mk #[]), .slice none 0 0, .bool false] 39)).alloc (.cells #[.int .i64 0, .int .i64 0, .slice none 0 0, .slice none 0 0, .bool false, .int .i64 0, .string (ByteArray.mk #[]), .slice none 0 0, .bool false] 39) := ⟨_, rfl⟩
  have hA : R9 W0 w.heap.size (.int .i64 0) (.int .i64 0) (.slice none 0 0) (.slice none 0 0) (.bool false) (.int .i64 0) (.string (ByteArray.mk #[])) (.slice none 0 0) (.bool false) := by rw [hW0]; exact (Below.heap_alloc _ _ _ (by simp)).trans (R9.new w)
  have hV : R9 W0 (w.heap.size + 1) (.int .i64 0) (.int .i64 0) (.slice none 0 0) (.slice none 0 0) (.bool false) (.int .i64 0) (.string (ByteArray.mk #[])) (.slice none 0 0) (.bool false) := by
    have := R9.new (w.alloc (.cells #[.int .i64 0, .int .i64 0, .slice none 0 0, .slice none 0 0, .bool false, .int .i64 0, .string (ByteArray.mk #[]), .slice none 0 0, .bool false] 39))
    rw [World.size_alloc] at this
    rw [hW0]; exact this
  have hb0 : Below w.heap.size w W0 := by rw [hW0]; exact ((Below.refl _ _).alloc (Nat.le_refl _) _).alloc (by simp) _
  have HLB : Hid (∀ W, Below w.heap.size w W → LibOk W) := fun W hb => hlib.below hb
  have hz : w.heap.size + 1 < W0.heap.size := by rw [hW0]; simp
  have hne1 : ¬ w.heap.size = w.heap.size + 1 := by omega
  have hne2 : ¬ w.heap.size + 1 = w.heap.size := by omega
  /- the zero rule is told. -/
  have HZERO : Hid (∀ (W : World) (code : Int), Below w.heap.size w W → code ≠ 0 → (∀ y, ¬ RuleIs (ws.map (·.data.toList)) y) → RdPost (ws.map (·.data.toList)) w (.returned (.tuple #[.agg #[.int .i64 0, .int .i64 0, .slice none 0 0, .slice none 0 0, .bool false, .int .i64 0, .string (ByteArray.mk #[]), .slice none 0 0, .bool false], .int .i64 code])) W) := fun W code hb hc hn => ⟨zRule, code, rfl, fun e => absurd e hc, fun _ => hn, hb⟩
  have HBAD := Lib.hid (read_bad ws)
  by_cases h8 : ws.length = 8
  · obtain ⟨s0, s1, s2, s3, s4, s5, s6, s7, rfl⟩ := cells8 h8
    obtain ⟨b, off, rfl, hbB, hc⟩ := h.src (by simp)
    have hcell : ∀ W, Below w.heap.size w W → W.cell? ⟨b, off, none⟩ = some (.string s0) ∧ W.cell? ⟨b, off + 1, none⟩ = some (.string s1) ∧ W.cell? ⟨b, off + 2, none⟩ = some (.string s2) ∧ W.cell? ⟨b, off + 3, none⟩ = some (.string s3) ∧ W.cell? ⟨b, off + 4, none⟩ = some (.string s4) ∧ W.cell? ⟨b, off + 5, none⟩ = some (.string s5) ∧ W.cell? ⟨b, off + 6, none⟩ = some (.string s6) ∧ W.cell? ⟨b, off + 7, none⟩ = some (.string s7) := fun W hb => by
      have k : ∀ j (hj : j < 8) v, ([s0, s1, s2, s3, s4, s5, s6, s7].map Value.string)[j]? = some v → W.cell? ⟨b, off + j, none⟩ = some v := fun j hj v hv => by
        have hj' : j < ([s0, s1, s2, s3, s4, s5, s6, s7].map Value.string).length := hj
        rw [List.getElem?_eq_getElem hj'] at hv
        exact ((hb.cell (p := ⟨b, off + j, none⟩) hbB).trans (hc j hj')).trans hv
      exact ⟨k 0 (by decide) _ rfl, k 1 (by decide) _ rfl, k 2 (by decide) _ rfl, k 3 (by decide) _ rfl, k 4 (by decide) _ rfl, k 5 (by decide) _ rfl, k 6 (by decide) _ rfl, k 7 (by decide) _ rfl⟩
    have HCELL := Lib.hid hcell
    have hs : ∀ s ∈ [s0, s1, s2, s3, s4, s5, s6, s7], s.size ≤ 8192 := hsz
    have hs1 := hs s1 (by simp)
    have hs2 := hs s2 (by simp)
    have hs3 := hs s3 (by simp)
    have hs4 := hs s4 (by simp)
    have hs5 := hs s5 (by simp)
    have hs6 := hs s6 (by simp)
    have hs7 := hs s7 (by simp)
    have hbn0 : ¬ b = w.heap.size := by omega
    have hbn1 : ¬ b = w.heap.size + 1 := by omega
    clear hc hcell hs hsz h hl h8 hlib
    obtain ⟨O, NO, OP, hopr, hcp, hpl⟩ : ∃ (O : ByteArray) (NO : Bool) (OP : Int), opR s5.data.toList = (NO, OP) ∧ (∀ W, Calls Tryz.prog 59 #[.string s5, .string (ByteArray.mk #[33])] W fun e w' => e = .returned (.tuple #[.string O, .bool NO]) ∧ w' = W) ∧ (∀ W, Calls Tryz.prog 60 #[.string O, .int .i64 12, .func (.func 42) #[] #[]] W fun e w' => e = .returned (.int .i64 OP) ∧ w' = W) := by
      have hpl := fun (x : ByteArray) W => ruPlace opWs 42 12 (by decide) (enters_of Tryz.func42 (by kernel_rfl) rfl) (fun k W h1 h2 => opWord_any k h1 (by omega) W) x W
      by_cases hh : s5.data.toList.head? = some 33
      · obtain ⟨r, hr⟩ : ∃ r, s5.data.toList = 33 :: r := by
          cases hl : s5.data.toList with
          | nil => rw [hl] at hh; cases hh
          | cons a r => rw [hl] at hh; have := Option.some.inj hh; subst this; exact ⟨r, rfl⟩
        exact ⟨bs r, true, _, opR_yes hr, fun W => cutp_yes 33 r W s5 hr, fun W => hpl (bs r) W⟩
      · exact ⟨s5, false, _, opR_no hh, fun W => cutp_no 33 W s5 hh, fun W => hpl s5 W⟩
    have HOPR := Lib.hid hopr
    have HCP := Lib.hid hcp
    have HPL := Lib.hid hpl
    clear hopr hcp hpl
    have HRI : Hid (∀ y, RuleIs ([s0, s1, s2, s3, s4, s5, s6, s7].map (·.data.toList)) y → _) := fun y hy => read_parts hy
    have HLV : Hid (∀ W, LibOk W → Calls Tryz.prog 55 #[.string s3, .func (.func 56) #[] #[]] W (RlVPost s3.data.toList W)) := Lib.hid fun W hl => listV_any 56 (enters_of Tryz.func56 (by kernel_rfl) rfl) (fun x W' h1 h2 => readVar_any x W' h1 h2) s3 W hl hs3
    have HLA : Hid (∀ W, LibOk W → Calls Tryz.prog 57 #[.string s7, .func (.func 58) #[] #[]] W (RlAPost s7.data.toList W)) := Lib.hid fun W hl => listA_any 58 (enters_of Tryz.func58 (by kernel_rfl) rfl) (fun x W' h1 h2 => readAct_any x W' h1 h2) s7 W hl hs7
    have HUQ := Lib.hid fun W => Unquote_any s6 W (by omega)
    have HPP := Lib.hid fun W hl => PiParse_any s4 W hl (by omega)
    have HN1 := Lib.hid fun W => rnumber_any s1 W (by unfold maxLen; omega)
    have HN2 := Lib.hid fun W => rnumber_any s2 W (by unfold maxLen; omega)
    obtain ⟨ID, hID⟩ : ∃ ID, numB 999999999 s1.data.toList = ID := ⟨_, rfl⟩
    obtain ⟨PH, hPH⟩ : ∃ PH, numB 999999999 s2.data.toList = PH := ⟨_, rfl⟩
    rw [hID] at HN1
    rw [hPH] at HN2
    have HID := Lib.hid hID
    have HPH := Lib.hid hPH
    clear hID hPH
    have c0 := (HCELL.out W0 hb0).1
    have hcase : s0.data.toList = ruleW ∨ s0.data.toList = chainW ∨ (s0.data.toList ≠ ruleW ∧ s0.data.toList ≠ chainW) := by
      by_cases h1 : s0.data.toList = ruleW
      · exact .inl h1
      · by_cases h2 : s0.data.toList = chainW
        · exact .inr (.inl h2)
        · exact .inr (.inr ⟨h1, h2⟩)
    go_enter Tryz.func26, Tryz.ntmps26
    go_upto_region 2 with fail
    rw [← hW0]
    clear hW0
    have x8 := hV.cell 8
    simp only [List.getElem?_toArray, List.getElem?_cons_succ, List.getElem?_cons_zero] at x8
    have f8 := hV.free 8
    rcases hcase with h0 | h0 | ⟨h1, h2⟩
    rotate_right
    · have q1 : (s0.toList == [114, 117, 108, 101]) = false := by rw [Lib.toList_data]; exact beq_eq_false_iff_ne.2 h1
      have q2 : (s0.toList == [99, 104, 97, 105, 110]) = false := by rw [Lib.toList_data]; exact beq_eq_false_iff_ne.2 h2
      have HN := Lib.hid (HBAD.out (.inr ⟨s0, rfl, h1, h2⟩))
      clear h1 h2 x8 f8
      obtain ⟨F, hF, hFR, hFB⟩ : ∃ F, (((((((((W0.setCell ⟨w.heap.size, 0, none⟩ (.int .i64 0)).setCell ⟨w.heap.size, 1, none⟩ (.int .i64 0)).setCell ⟨w.heap.size, 2, none⟩ (.slice none 0 0)).setCell ⟨w.heap.size, 3, none⟩ (.slice none 0 0)).setCell ⟨w.heap.size, 4, none⟩ (.bool false)).setCell ⟨w.heap.size, 5, none⟩ (.int .i64 0)).setCell ⟨w.heap.size, 6, none⟩ (.string (ByteArray.mk #[]))).setCell ⟨w.heap.size, 7, none⟩ (.slice none 0 0)).setCell ⟨w.heap.size, 8, none⟩ (.bool false)) = F ∧ R9 F w.heap.size (.int .i64 0) (.int .i64 0) (.slice none 0 0) (.slice none 0 0) (.bool false) (.int .i64 0) (.string (ByteArray.mk #[])) (.slice none 0 0) (.bool false) ∧ Below w.heap.size w F := ⟨_, rfl, (((((((((hA.put0 (.int .i64 0)).put1 (.int .i64 0)).put2 (.slice none 0 0)).put3 (.slice none 0 0)).put4 (.bool false)).put5 (.int .i64 0)).put6 (.string (ByteArray.mk #[]))).put7 (.slice none 0 0)).put8 (.bool false)), (((((((((hb0.setCell (p := ⟨w.heap.size, 0, none⟩) (Nat.le_refl _) (.int .i64 0)).setCell (p := ⟨w.heap.size, 1, none⟩) (Nat.le_refl _) (.int .i64 0)).setCell (p := ⟨w.heap.size, 2, none⟩) (Nat.le_refl _) (.slice none 0 0)).setCell (p := ⟨w.heap.size, 3, none⟩) (Nat.le_refl _) (.slice none 0 0)).setCell (p := ⟨w.heap.size, 4, none⟩) (Nat.le_refl _) (.bool false)).setCell (p := ⟨w.heap.size, 5, none⟩) (Nat.le_refl _) (.int .i64 0)).setCell (p := ⟨w.heap.size, 6, none⟩) (Nat.le_refl _) (.string (ByteArray.mk #[]))).setCell (p := ⟨w.heap.size, 7, none⟩) (Nat.le_refl _) (.slice none 0 0)).setCell (p := ⟨w.heap.size, 8, none⟩) (Nat.le_refl _) (.bool false))⟩
      have HF := Lib.hid hF
      have HFR := Lib.hid hFR
      have HFB := Lib.hid hFB
      clear hF hFR hFB
      have v0 := hV.cell 0
      have v1 := hV.cell 1
      have v2 := hV.cell 2
      have v3 := hV.cell 3
      have v4 := hV.cell 4
      have v5 := hV.cell 5
      have v6 := hV.cell 6
      have v7 := hV.cell 7
      have v8 := hV.cell 8
      simp only [List.getElem?_toArray, List.getElem?_cons_succ, List.getElem?_cons_zero] at v0 v1 v2 v3 v4 v5 v6 v7 v8
      have z0 := hA.cell 0
      have z1 := hA.cell 1
      have z2 := hA.cell 2
      have z3 := hA.cell 3
      have z4 := hA.cell 4
      have z5 := hA.cell 5
      have z6 := hA.cell 6
      have z7 := hA.cell 7
      have z8 := hA.cell 8
      simp only [List.getElem?_toArray, List.getElem?_cons_succ, List.getElem?_cons_zero] at z0 z1 z2 z3 z4 z5 z6 z7 z8
      have g0 := hA.free 0
      have g1 := hA.free 1
      have g2 := hA.free 2
      have g3 := hA.free 3
      have g4 := hA.free 4
      have g5 := hA.free 5
      have g6 := hA.free 6
      have g7 := hA.free 7
      have g8 := hA.free 8
      clear hA hV hb0
      go_wp2_with fail
      rw [HF.out]
      exact bodyPost_ret (v := .tuple #[.agg #[.int .i64 0, .int .i64 0, .slice none 0 0, .slice none 0 0, .bool false, .int .i64 0, .string (ByteArray.mk #[]), .slice none 0 0, .bool false], .int .i64 3]) (by simp [results, Tryz.results26, go_sem, HFR.out.cell 0, HFR.out.cell 1, HFR.out.cell 2, HFR.out.cell 3, HFR.out.cell 4, HFR.out.cell 5, HFR.out.cell 6, HFR.out.cell 7, HFR.out.cell 8]) rfl (HZERO.out F 3 HFB.out (by decide) HN.out)
    focus
      have q1 : (s0.toList == [114, 117, 108, 101]) = true := by rw [Lib.toList_data, h0]; rfl
      have q2 : (s0.toList == [99, 104, 97, 105, 110]) = false := by rw [Lib.toList_data, h0]; rfl
      go_upto_region 5 with fail
      obtain ⟨CH, hCH⟩ : ∃ CH : Bool, CH = false := ⟨_, rfl⟩
      have hV1 : R9 (W0.setCell ⟨w.heap.size + 1, 8, none⟩ (.bool false)) (w.heap.size + 1) (.int .i64 0) (.int .i64 0) (.slice none 0 0) (.slice none 0 0) (.bool false) (.int .i64 0) (.string (ByteArray.mk #[])) (.slice none 0 0) (.bool CH) := by rw [hCH]; exact hV.put8 (.bool false)
      have hA1 := hA.far hne1 8 (.bool false)
      have hb1 := hb0.setCell (p := ⟨w.heap.size + 1, 8, none⟩) (by show w.heap.size ≤ w.heap.size + 1; omega) (.bool false)
      have HCH : Hid (s0.data.toList = if CH then chainW else ruleW) := Lib.hid (by rw [h0, hCH]; rfl)
      generalize W0.setCell ⟨w.heap.size + 1, 8, none⟩ (.bool false) = W1 at *
      clear q1 q2 h0 hV hA hb0 c0 x8 f8 hCH
    rotate_left
    focus
      have q1 : (s0.toList == [114, 117, 108, 101]) = false := by rw [Lib.toList_data, h0]; rfl
      have q2 : (s0.toList == [99, 104, 97, 105, 110]) = true := by rw [Lib.toList_data, h0]; rfl
      go_upto_region 5 with fail
      obtain ⟨CH, hCH⟩ : ∃ CH : Bool, CH = true := ⟨_, rfl⟩
      have hV1 : R9 (W0.setCell ⟨w.heap.size + 1, 8, none⟩ (.bool true)) (w.heap.size + 1) (.int .i64 0) (.int .i64 0) (.slice none 0 0) (.slice none 0 0) (.bool false) (.int .i64 0) (.string (ByteArray.mk #[])) (.slice none 0 0) (.bool CH) := by rw [hCH]; exact hV.put8 (.bool true)
      have hA1 := hA.far hne1 8 (.bool true)
      have hb1 := hb0.setCell (p := ⟨w.heap.size + 1, 8, none⟩) (by show w.heap.size ≤ w.heap.size + 1; omega) (.bool true)
      have HCH : Hid (s0.data.toList = if CH then chainW else ruleW) := Lib.hid (by rw [h0, hCH]; rfl)
      generalize W0.setCell ⟨w.heap.size + 1, 8, none⟩ (.bool true) = W1 at *
      clear q1 q2 h0 hV hA hb0 c0 x8 f8 hCH
    all_goals
      obtain ⟨-, c1, c2, -⟩ := HCELL.out W1 hb1
      have hbs1 : Below w.heap.size w (W1.setCell ⟨w.heap.size + 1, 0, none⟩ (.int .i64 ID)).drew := (hb1.setCell (p := ⟨w.heap.size + 1, 0, none⟩) (by show w.heap.size ≤ w.heap.size + 1; omega) _).drew
      have hbs2 : Below w.heap.size w ((W1.setCell ⟨w.heap.size + 1, 0, none⟩ (.int .i64 ID)).setCell ⟨w.heap.size + 1, 1, none⟩ (.int .i64 PH)).drew := ((hb1.setCell (p := ⟨w.heap.size + 1, 0, none⟩) (by show w.heap.size ≤ w.heap.size + 1; omega) _).setCell (p := ⟨w.heap.size + 1, 1, none⟩) (by show w.heap.size ≤ w.heap.size + 1; omega) _).drew
      have v0 := hV1.cell 0
      have v1 := hV1.cell 1
      simp only [List.getElem?_toArray, List.getElem?_cons_succ, List.getElem?_cons_zero] at v0 v1
      have f0 := hV1.free 0
      have f1 := hV1.free 1
      go_wp2_with fail
      go_region_held3 (fun w' => w'.cell? ⟨b, off + 1, none⟩ = some (.string s1) ∧ w'.cell? ⟨b, off + 2, none⟩ = some (.string s2))
        (first | exact ⟨c1, c2⟩ | exact ⟨(HCELL.out _ hbs1).2.1, (HCELL.out _ hbs1).2.2.1⟩ | exact ⟨(HCELL.out _ hbs2).2.1, (HCELL.out _ hbs2).2.2.1⟩ | go_keep | fail "keep")
        (first
          | (go_at_call 25; (first | (with_reducible refine (HN1.out _).mono ?_) | (with_reducible refine (HN2.out _).mono ?_)); rintro e w2 ⟨rfl, hw2⟩; rw [hw2]; clear hw2 w2)
          | fail "arm")
      go_upto_region 7 with fail
      have hV2 : R9 ((W1.setCell ⟨w.heap.size + 1, 0, none⟩ (.int .i64 ID)).setCell ⟨w.heap.size + 1, 1, none⟩ (.int .i64 PH)).drew (w.heap.size + 1) (.int .i64 ID) (.int .i64 PH) (.slice none 0 0) (.slice none 0 0) (.bool false) (.int .i64 0) (.string (ByteArray.mk #[])) (.slice none 0 0) _ := (hV1.put0 (.int .i64 ID)).put1 (.int .i64 PH)
      have hA2 : R9 ((W1.setCell ⟨w.heap.size + 1, 0, none⟩ (.int .i64 ID)).setCell ⟨w.heap.size + 1, 1, none⟩ (.int .i64 PH)).drew w.heap.size (.int .i64 0) (.int .i64 0) (.slice none 0 0) (.slice none 0 0) (.bool false) (.int .i64 0) (.string (ByteArray.mk #[])) (.slice none 0 0) (.bool false) := (hA1.far hne1 0 (.int .i64 ID)).far hne1 1 (.int .i64 PH)
      generalize ((W1.setCell ⟨w.heap.size + 1, 0, none⟩ (.int .i64 ID)).setCell ⟨w.heap.size + 1, 1, none⟩ (.int .i64 PH)).drew = W2 at *
      clear c1 c2 v0 v1 f0 f1 hV1 hA1 hb1 hbs1
      have hb2 := hbs2
      clear hbs2
      have c3 := (HCELL.out W2 hb2).2.2.2.1
      go_wp2_with fail
      refine (HLV.out W2 (HLB.out W2 hb2)).mono ?_
      intro e w3 hpost
      obtain ⟨Av, cv, lv, vb, rfl, hO, hlv, hvt, hvf, hbc⟩ := rlV_form hpost
      clear hpost
      have hz2 := hV2.lt
      have hVc := hV2.below hbc
      have hAc := hA2.below hbc
      have hbd := hb2.trans (hbc.mono hb2.size)
      have v2 := hVc.cell 2
      simp only [List.getElem?_toArray, List.getElem?_cons_succ, List.getElem?_cons_zero] at v2
      have f2 := hVc.free 2
      have hV3 := hVc.put2 (.slice Av lv.length cv)
      have hA3 := hAc.far hne1 2 (.slice Av lv.length cv)
      have hb3 := hbd.setCell (p := ⟨w.heap.size + 1, 2, none⟩) (by show w.heap.size ≤ w.heap.size + 1; omega) (.slice Av lv.length cv)
      have rv3 : OwnG rowRuV (w3.setCell ⟨w.heap.size + 1, 2, none⟩ (.slice Av lv.length cv)) (w.heap.size + 1 + 1) (.slice Av lv.length cv) lv := ruOwn_farS (hO.low hz2) (Nat.lt_succ_self _) 2 (.slice Av lv.length cv)
      have HVT := Lib.hid hvt
      have HVF := Lib.hid hvf
      clear hvt hvf hO hz2
      go_upto_region 8 with fail
      generalize w3.setCell ⟨w.heap.size + 1, 2, none⟩ (.slice Av lv.length cv) = W3 at *
      clear c3 v2 f2 hVc hAc hbd hbc hV2 hA2 hb2
      have c7 := (HCELL.out W3 hb3).2.2.2.2.2.2.2
      go_wp2_with fail
      refine (HLA.out W3 (HLB.out W3 hb3)).mono ?_
      rintro e w4 hpost
      obtain ⟨Aa, ca, la, ab, rfl, hO, hla, hat, haf, hbc⟩ := rlA_form hpost
      clear hpost
      have hzc := hV3.lt
      have hVc := hV3.below hbc
      have hAc := hA3.below hbc
      have hbd := hb3.trans (hbc.mono hb3.size)
      have v7 := hVc.cell 7
      simp only [List.getElem?_toArray, List.getElem?_cons_succ, List.getElem?_cons_zero] at v7
      have f7 := hVc.free 7
      have hV4 := (hVc.put7 (.slice Aa la.length ca))
      have hA4 := (hAc.far hne1 7 (.slice Aa la.length ca))
      have hb4 := (hbd.setCell (p := ⟨w.heap.size + 1, 7, none⟩) (by show w.heap.size ≤ w.heap.size + 1; omega) (.slice Aa la.length ca))
      have rv4 : OwnG rowRuV ((w4.setCell ⟨w.heap.size + 1, 7, none⟩ (.slice Aa la.length ca))) (w.heap.size + 1 + 1) (.slice Av lv.length cv) lv := ruOwn_farS (rv3.below hbc) (Nat.lt_succ_self _) 7 (.slice Aa la.length ca)
      have ra4 : OwnG rowRuA (w4.setCell ⟨w.heap.size + 1, 7, none⟩ (.slice Aa la.length ca)) (w.heap.size + 1 + 1) (.slice Aa la.length ca) la := ruOwn_farS (hO.low hzc) (Nat.lt_succ_self _) 7 (.slice Aa la.length ca)
      have HAT := Lib.hid hat
      have HAF := Lib.hid haf
      clear hat haf hO hzc
      go_upto_region 9 with fail
      generalize (w4.setCell ⟨w.heap.size + 1, 7, none⟩ (.slice Aa la.length ca)) = W4 at *
      clear c7 v7 f7 hVc hAc hbd hV3 hA3 hb3 hbc rv3
      have c5 := (HCELL.out W4 hb4).2.2.2.2.2.1
      go_wp2_with fail
      refine (HCP.out W4).mono ?_
      rintro e w5 ⟨rfl, hw5⟩
      rw [hw5]
      clear hw5 w5
      go_upto_region 10 with fail
      clear c5
      go_wp2_with fail
      refine (HPL.out W4).mono ?_
      rintro e w5 ⟨rfl, hw5⟩
      rw [hw5]
      clear hw5 w5
      have v4 := hV4.cell 4
      simp only [List.getElem?_toArray, List.getElem?_cons_succ, List.getElem?_cons_zero] at v4
      have f4 := hV4.free 4
      have v5 := hV4.cell 5
      simp only [List.getElem?_toArray, List.getElem?_cons_succ, List.getElem?_cons_zero] at v5
      have f5 := hV4.free 5
      have hV5 := (hV4.put4 (.bool NO)).put5 (.int .i64 OP)
      have hA5 := (hA4.far hne1 4 (.bool NO)).far hne1 5 (.int .i64 OP)
      have hb5 := (hb4.setCell (p := ⟨w.heap.size + 1, 4, none⟩) (by show w.heap.size ≤ w.heap.size + 1; omega) (.bool NO)).setCell (p := ⟨w.heap.size + 1, 5, none⟩) (by show w.heap.size ≤ w.heap.size + 1; omega) (.int .i64 OP)
      have rv5 : OwnG rowRuV ((W4.setCell ⟨w.heap.size + 1, 4, none⟩ (.bool NO)).setCell ⟨w.heap.size + 1, 5, none⟩ (.int .i64 OP)) (w.heap.size + 1 + 1) (.slice Av lv.length cv) lv := ruOwn_farS (ruOwn_farS rv4 (Nat.lt_succ_self _) 4 (.bool NO)) (Nat.lt_succ_self _) 5 (.int .i64 OP)
      have ra5 : OwnG rowRuA ((W4.setCell ⟨w.heap.size + 1, 4, none⟩ (.bool NO)).setCell ⟨w.heap.size + 1, 5, none⟩ (.int .i64 OP)) (w.heap.size + 1 + 1) (.slice Aa la.length ca) la := ruOwn_farS (ruOwn_farS ra4 (Nat.lt_succ_self _) 4 (.bool NO)) (Nat.lt_succ_self _) 5 (.int .i64 OP)
      go_upto_region 12 with fail
      generalize (W4.setCell ⟨w.heap.size + 1, 4, none⟩ (.bool NO)).setCell ⟨w.heap.size + 1, 5, none⟩ (.int .i64 OP) = W5 at *
      clear v4 f4 v5 f5 hV4 hA4 hb4 rv4 ra4
      have c6 := (HCELL.out W5 hb5).2.2.2.2.2.2.1
      go_wp2_with fail
      refine (HUQ.out W5).mono ?_
      rintro e w6 hpost
      obtain ⟨U, ue, rfl, hut, huf, hbc⟩ := uq_form hpost
      clear hpost
      have hVc := hV5.below hbc
      have hAc := hA5.below hbc
      have hbd := hb5.trans (hbc.mono hb5.size)
      have v6 := hVc.cell 6
      simp only [List.getElem?_toArray, List.getElem?_cons_succ, List.getElem?_cons_zero] at v6
      have f6 := hVc.free 6
      have hV6 := (hVc.put6 (.string U))
      have hA6 := (hAc.far hne1 6 (.string U))
      have hb6 := (hbd.setCell (p := ⟨w.heap.size + 1, 6, none⟩) (by show w.heap.size ≤ w.heap.size + 1; omega) (.string U))
      have rv6 : OwnG rowRuV ((w6.setCell ⟨w.heap.size + 1, 6, none⟩ (.string U))) (w.heap.size + 1 + 1) (.slice Av lv.length cv) lv := ruOwn_farS (rv5.below hbc) (Nat.lt_succ_self _) 6 (.string U)
      have ra6 : OwnG rowRuA ((w6.setCell ⟨w.heap.size + 1, 6, none⟩ (.string U))) (w.heap.size + 1 + 1) (.slice Aa la.length ca) la := ruOwn_farS (ra5.below hbc) (Nat.lt_succ_self _) 6 (.string U)
      have HUT := Lib.hid hut
      have HUF := Lib.hid huf
      clear hut huf
      go_upto_region 13 with fail
      generalize (w6.setCell ⟨w.heap.size + 1, 6, none⟩ (.string U)) = W6 at *
      clear c6 v6 f6 hVc hAc hbd hV5 hA5 hb5 hbc rv5 ra5
      have c4 := (HCELL.out W6 hb6).2.2.2.2.1
      go_wp2_with fail
      refine (HPP.out W6 (HLB.out W6 hb6)).mono ?_
      rintro e w7 hpost
      obtain ⟨Ap, cp, lp, pc, rfl, hO, hpt, hpf, hbc⟩ := pp_form hpost
      clear hpost
      have hzc := hV6.lt
      have hVc := hV6.below hbc
      have hAc := hA6.below hbc
      have hbd := hb6.trans (hbc.mono hb6.size)
      have v3 := hVc.cell 3
      simp only [List.getElem?_toArray, List.getElem?_cons_succ, List.getElem?_cons_zero] at v3
      have f3 := hVc.free 3
      have hV7 := (hVc.put3 (.slice Ap lp.length cp))
      have hA7 := (hAc.far hne1 3 (.slice Ap lp.length cp))
      have hb7 := (hbd.setCell (p := ⟨w.heap.size + 1, 3, none⟩) (by show w.heap.size ≤ w.heap.size + 1; omega) (.slice Ap lp.length cp))
      have rv7 : OwnG rowRuV ((w7.setCell ⟨w.heap.size + 1, 3, none⟩ (.slice Ap lp.length cp))) (w.heap.size + 1 + 1) (.slice Av lv.length cv) lv := ruOwn_farS (rv6.below hbc) (Nat.lt_succ_self _) 3 (.slice Ap lp.length cp)
      have ra7 : OwnG rowRuA ((w7.setCell ⟨w.heap.size + 1, 3, none⟩ (.slice Ap lp.length cp))) (w.heap.size + 1 + 1) (.slice Aa la.length ca) la := ruOwn_farS (ra6.below hbc) (Nat.lt_succ_self _) 3 (.slice Ap lp.length cp)
      have rp7 : OwnK (w7.setCell ⟨w.heap.size + 1, 3, none⟩ (.slice Ap lp.length cp)) (w.heap.size + 1 + 1) (.slice Ap lp.length cp) lp := ruOwn_farS (hO.low hzc) (Nat.lt_succ_self _) 3 (.slice Ap lp.length cp)
      have HPT := Lib.hid hpt
      have HPF := Lib.hid hpf
      clear hpt hpf hO hzc
      go_upto_region 14 with fail
      generalize (w7.setCell ⟨w.heap.size + 1, 3, none⟩ (.slice Ap lp.length cp)) = W7 at *
      clear c4 v3 f3 hVc hAc hbd hV6 hA6 hb6 hbc rv6 ra6
      obtain ⟨F, hF, hFR, hFB⟩ : ∃ F, (((((((((W7.setCell ⟨w.heap.size, 0, none⟩ (.int .i64 ID)).setCell ⟨w.heap.size, 1, none⟩ (.int .i64 PH)).setCell ⟨w.heap.size, 2, none⟩ (.slice Av lv.length cv)).setCell ⟨w.heap.size, 3, none⟩ (.slice Ap lp.length cp)).setCell ⟨w.heap.size, 4, none⟩ (.bool NO)).setCell ⟨w.heap.size, 5, none⟩ (.int .i64 OP)).setCell ⟨w.heap.size, 6, none⟩ (.string U)).setCell ⟨w.heap.size, 7, none⟩ (.slice Aa la.length ca)).setCell ⟨w.heap.size, 8, none⟩ (.bool CH)) = F ∧ R9 F w.heap.size (.int .i64 ID) (.int .i64 PH) (.slice Av lv.length cv) (.slice Ap lp.length cp) (.bool NO) (.int .i64 OP) (.string U) (.slice Aa la.length ca) (.bool CH) ∧ Below w.heap.size w F := ⟨_, rfl, (((((((((hA7.put0 (.int .i64 ID)).put1 (.int .i64 PH)).put2 (.slice Av lv.length cv)).put3 (.slice Ap lp.length cp)).put4 (.bool NO)).put5 (.int .i64 OP)).put6 (.string U)).put7 (.slice Aa la.length ca)).put8 (.bool CH)), (((((((((hb7.setCell (p := ⟨w.heap.size, 0, none⟩) (Nat.le_refl _) (.int .i64 ID)).setCell (p := ⟨w.heap.size, 1, none⟩) (Nat.le_refl _) (.int .i64 PH)).setCell (p := ⟨w.heap.size, 2, none⟩) (Nat.le_refl _) (.slice Av lv.length cv)).setCell (p := ⟨w.heap.size, 3, none⟩) (Nat.le_refl _) (.slice Ap lp.length cp)).setCell (p := ⟨w.heap.size, 4, none⟩) (Nat.le_refl _) (.bool NO)).setCell (p := ⟨w.heap.size, 5, none⟩) (Nat.le_refl _) (.int .i64 OP)).setCell (p := ⟨w.heap.size, 6, none⟩) (Nat.le_refl _) (.string U)).setCell (p := ⟨w.heap.size, 7, none⟩) (Nat.le_refl _) (.slice Aa la.length ca)).setCell (p := ⟨w.heap.size, 8, none⟩) (Nat.le_refl _) (.bool CH))⟩
      have HF := Lib.hid hF
      have HFR := Lib.hid hFR
      have HFB := Lib.hid hFB
      have HROW : Hid (RuOwn F w.heap.size ⟨⟨ID, PH, lv, lp, NO, OP, U, la, CH⟩, Av, cv, Ap, cp, Aa, ca⟩) := Lib.hid (by
        rw [← hF]
        have e1 : w.heap.size ≤ w.heap.size + 1 + 1 := by omega
        have a1 : OwnG rowRuV ((((((((((W7.setCell ⟨w.heap.size, 0, none⟩ (.int .i64 ID)).setCell ⟨w.heap.size, 1, none⟩ (.int .i64 PH)).setCell ⟨w.heap.size, 2, none⟩ (.slice Av lv.length cv)).setCell ⟨w.heap.size, 3, none⟩ (.slice Ap lp.length cp)).setCell ⟨w.heap.size, 4, none⟩ (.bool NO)).setCell ⟨w.heap.size, 5, none⟩ (.int .i64 OP)).setCell ⟨w.heap.size, 6, none⟩ (.string U)).setCell ⟨w.heap.size, 7, none⟩ (.slice Aa la.length ca)).setCell ⟨w.heap.size, 8, none⟩ (.bool CH))) (w.heap.size + 1 + 1) (.slice Av lv.length cv) lv := (ruOwn_farS (ruOwn_farS (ruOwn_farS (ruOwn_farS (ruOwn_farS (ruOwn_farS (ruOwn_farS (ruOwn_farS (ruOwn_farS rv7 (by omega) 0 (.int .i64 ID)) (by omega) 1 (.int .i64 PH)) (by omega) 2 (.slice Av lv.length cv)) (by omega) 3 (.slice Ap lp.length cp)) (by omega) 4 (.bool NO)) (by omega) 5 (.int .i64 OP)) (by omega) 6 (.string U)) (by omega) 7 (.slice Aa la.length ca)) (by omega) 8 (.bool CH))
        have a2 : OwnK ((((((((((W7.setCell ⟨w.heap.size, 0, none⟩ (.int .i64 ID)).setCell ⟨w.heap.size, 1, none⟩ (.int .i64 PH)).setCell ⟨w.heap.size, 2, none⟩ (.slice Av lv.length cv)).setCell ⟨w.heap.size, 3, none⟩ (.slice Ap lp.length cp)).setCell ⟨w.heap.size, 4, none⟩ (.bool NO)).setCell ⟨w.heap.size, 5, none⟩ (.int .i64 OP)).setCell ⟨w.heap.size, 6, none⟩ (.string U)).setCell ⟨w.heap.size, 7, none⟩ (.slice Aa la.length ca)).setCell ⟨w.heap.size, 8, none⟩ (.bool CH))) (w.heap.size + 1 + 1) (.slice Ap lp.length cp) lp := (ruOwn_farS (ruOwn_farS (ruOwn_farS (ruOwn_farS (ruOwn_farS (ruOwn_farS (ruOwn_farS (ruOwn_farS (ruOwn_farS rp7 (by omega) 0 (.int .i64 ID)) (by omega) 1 (.int .i64 PH)) (by omega) 2 (.slice Av lv.length cv)) (by omega) 3 (.slice Ap lp.length cp)) (by omega) 4 (.bool NO)) (by omega) 5 (.int .i64 OP)) (by omega) 6 (.string U)) (by omega) 7 (.slice Aa la.length ca)) (by omega) 8 (.bool CH))
        have a3 : OwnG rowRuA ((((((((((W7.setCell ⟨w.heap.size, 0, none⟩ (.int .i64 ID)).setCell ⟨w.heap.size, 1, none⟩ (.int .i64 PH)).setCell ⟨w.heap.size, 2, none⟩ (.slice Av lv.length cv)).setCell ⟨w.heap.size, 3, none⟩ (.slice Ap lp.length cp)).setCell ⟨w.heap.size, 4, none⟩ (.bool NO)).setCell ⟨w.heap.size, 5, none⟩ (.int .i64 OP)).setCell ⟨w.heap.size, 6, none⟩ (.string U)).setCell ⟨w.heap.size, 7, none⟩ (.slice Aa la.length ca)).setCell ⟨w.heap.size, 8, none⟩ (.bool CH))) (w.heap.size + 1 + 1) (.slice Aa la.length ca) la := (ruOwn_farS (ruOwn_farS (ruOwn_farS (ruOwn_farS (ruOwn_farS (ruOwn_farS (ruOwn_farS (ruOwn_farS (ruOwn_farS ra7 (by omega) 0 (.int .i64 ID)) (by omega) 1 (.int .i64 PH)) (by omega) 2 (.slice Av lv.length cv)) (by omega) 3 (.slice Ap lp.length cp)) (by omega) 4 (.bool NO)) (by omega) 5 (.int .i64 OP)) (by omega) 6 (.string U)) (by omega) 7 (.slice Aa la.length ca)) (by omega) 8 (.bool CH))
        exact ⟨a1.low e1, a2.low e1, a3.low e1⟩)
      have HERR : Hid ((∀ y, ¬ RuleIs ([s0, s1, s2, s3, s4, s5, s6, s7].map (·.data.toList)) y) → RdPost ([s0, s1, s2, s3, s4, s5, s6, s7].map (·.data.toList)) w (.returned (.tuple #[.agg #[.int .i64 ID, .int .i64 PH, .slice Av lv.length cv, .slice Ap lp.length cp, .bool NO, .int .i64 OP, .string U, .slice Aa la.length ca, .bool CH], .int .i64 3])) F) := Lib.hid fun hn => ⟨⟨⟨ID, PH, lv, lp, NO, OP, U, la, CH⟩, Av, cv, Ap, cp, Aa, ca⟩, 3, rfl, fun e => absurd e (by decide), fun _ => hn, HFB.out⟩
      clear hF hFR hFB rv7 ra7 rp7
      have v0 := hV7.cell 0
      have v1 := hV7.cell 1
      have v2 := hV7.cell 2
      have v3 := hV7.cell 3
      have v4 := hV7.cell 4
      have v5 := hV7.cell 5
      have v6 := hV7.cell 6
      have v7 := hV7.cell 7
      have v8 := hV7.cell 8
      simp only [List.getElem?_toArray, List.getElem?_cons_succ, List.getElem?_cons_zero] at v0 v1 v2 v3 v4 v5 v6 v7 v8
      have z0 := hA7.cell 0
      have z1 := hA7.cell 1
      have z2 := hA7.cell 2
      have z3 := hA7.cell 3
      have z4 := hA7.cell 4
      have z5 := hA7.cell 5
      have z6 := hA7.cell 6
      have z7 := hA7.cell 7
      have z8 := hA7.cell 8
      simp only [List.getElem?_toArray, List.getElem?_cons_succ, List.getElem?_cons_zero] at z0 z1 z2 z3 z4 z5 z6 z7 z8
      have g0 := hA7.free 0
      have g1 := hA7.free 1
      have g2 := hA7.free 2
      have g3 := hA7.free 3
      have g4 := hA7.free 4
      have g5 := hA7.free 5
      have g6 := hA7.free 6
      have g7 := hA7.free 7
      have g8 := hA7.free 8
      clear hV7 hA7 hb7
      by_cases k1 : ID < 0
      · have HN : Hid (∀ y, ¬ RuleIs ([s0, s1, s2, s3, s4, s5, s6, s7].map (·.data.toList)) y) := Lib.hid fun y hy => by
          obtain ⟨r1, r2, r3, r4, r5, r6, r7, r8, r9, r10⟩ := HRI.out y hy
          have := HID.out; omega
        go_wp2_with fail
        rw [HF.out]
        exact bodyPost_ret (v := .tuple #[.agg #[.int .i64 ID, .int .i64 PH, .slice Av lv.length cv, .slice Ap lp.length cp, .bool NO, .int .i64 OP, .string U, .slice Aa la.length ca, .bool CH], .int .i64 3]) (by simp [results, Tryz.results26, go_sem, HFR.out.cell 0, HFR.out.cell 1, HFR.out.cell 2, HFR.out.cell 3, HFR.out.cell 4, HFR.out.cell 5, HFR.out.cell 6, HFR.out.cell 7, HFR.out.cell 8]) rfl (HERR.out HN.out)
      by_cases k2 : PH < 0
      · have HN : Hid (∀ y, ¬ RuleIs ([s0, s1, s2, s3, s4, s5, s6, s7].map (·.data.toList)) y) := Lib.hid fun y hy => by
          obtain ⟨r1, r2, r3, r4, r5, r6, r7, r8, r9, r10⟩ := HRI.out y hy
          have := HPH.out; omega
        go_wp2_with fail
        rw [HF.out]
        exact bodyPost_ret (v := .tuple #[.agg #[.int .i64 ID, .int .i64 PH, .slice Av lv.length cv, .slice Ap lp.length cp, .bool NO, .int .i64 OP, .string U, .slice Aa la.length ca, .bool CH], .int .i64 3]) (by simp [results, Tryz.results26, go_sem, HFR.out.cell 0, HFR.out.cell 1, HFR.out.cell 2, HFR.out.cell 3, HFR.out.cell 4, HFR.out.cell 5, HFR.out.cell 6, HFR.out.cell 7, HFR.out.cell 8]) rfl (HERR.out HN.out)
      cases vb with
      | false =>
        have HN : Hid (∀ y, ¬ RuleIs ([s0, s1, s2, s3, s4, s5, s6, s7].map (·.data.toList)) y) := Lib.hid fun y hy => by
          obtain ⟨r1, r2, r3, r4, r5, r6, r7, r8, r9, r10⟩ := HRI.out y hy
          rw [HVF.out rfl] at r5; cases r5
        go_wp2_with fail
        rw [HF.out]
        exact bodyPost_ret (v := .tuple #[.agg #[.int .i64 ID, .int .i64 PH, .slice Av lv.length cv, .slice Ap lp.length cp, .bool NO, .int .i64 OP, .string U, .slice Aa la.length ca, .bool CH], .int .i64 3]) (by simp [results, Tryz.results26, go_sem, HFR.out.cell 0, HFR.out.cell 1, HFR.out.cell 2, HFR.out.cell 3, HFR.out.cell 4, HFR.out.cell 5, HFR.out.cell 6, HFR.out.cell 7, HFR.out.cell 8]) rfl (HERR.out HN.out)
      | true =>
        cases ab with
        | false =>
          have HN : Hid (∀ y, ¬ RuleIs ([s0, s1, s2, s3, s4, s5, s6, s7].map (·.data.toList)) y) := Lib.hid fun y hy => by
            obtain ⟨r1, r2, r3, r4, r5, r6, r7, r8, r9, r10⟩ := HRI.out y hy
            rw [HAF.out rfl] at r10; cases r10
          go_wp2_with fail
          rw [HF.out]
          exact bodyPost_ret (v := .tuple #[.agg #[.int .i64 ID, .int .i64 PH, .slice Av lv.length cv, .slice Ap lp.length cp, .bool NO, .int .i64 OP, .string U, .slice Aa la.length ca, .bool CH], .int .i64 3]) (by simp [results, Tryz.results26, go_sem, HFR.out.cell 0, HFR.out.cell 1, HFR.out.cell 2, HFR.out.cell 3, HFR.out.cell 4, HFR.out.cell 5, HFR.out.cell 6, HFR.out.cell 7, HFR.out.cell 8]) rfl (HERR.out HN.out)
        | true =>
          by_cases k5 : OP = 0
          · have q5 : (OP == 0) = true := beq_iff_eq.2 k5
            have HN : Hid (∀ y, ¬ RuleIs ([s0, s1, s2, s3, s4, s5, s6, s7].map (·.data.toList)) y) := Lib.hid fun y hy => by
              obtain ⟨r1, r2, r3, r4, r5, r6, r7, r8, r9, r10⟩ := HRI.out y hy
              rw [HOPR.out] at r7; exact r8 ((Prod.mk.inj r7).2.symm.trans k5)
            clear k5
            go_wp2_with fail
            rw [HF.out]
            exact bodyPost_ret (v := .tuple #[.agg #[.int .i64 ID, .int .i64 PH, .slice Av lv.length cv, .slice Ap lp.length cp, .bool NO, .int .i64 OP, .string U, .slice Aa la.length ca, .bool CH], .int .i64 3]) (by simp [results, Tryz.results26, go_sem, HFR.out.cell 0, HFR.out.cell 1, HFR.out.cell 2, HFR.out.cell 3, HFR.out.cell 4, HFR.out.cell 5, HFR.out.cell 6, HFR.out.cell 7, HFR.out.cell 8]) rfl (HERR.out HN.out)
          have q5 : (OP == 0) = false := beq_eq_false_iff_ne.2 k5
          by_cases k6 : ue = 0
          rotate_left
          · have q6 : (ue == 0) = false := beq_eq_false_iff_ne.2 k6
            have HN : Hid (∀ y, ¬ RuleIs ([s0, s1, s2, s3, s4, s5, s6, s7].map (·.data.toList)) y) := Lib.hid fun y hy => by
              obtain ⟨r1, r2, r3, r4, r5, r6, r7, r8, r9, r10⟩ := HRI.out y hy
              rw [HUF.out k6] at r9; cases r9
            go_wp2_with fail
            rw [HF.out]
            exact bodyPost_ret (v := .tuple #[.agg #[.int .i64 ID, .int .i64 PH, .slice Av lv.length cv, .slice Ap lp.length cp, .bool NO, .int .i64 OP, .string U, .slice Aa la.length ca, .bool CH], .int .i64 3]) (by simp [results, Tryz.results26, go_sem, HFR.out.cell 0, HFR.out.cell 1, HFR.out.cell 2, HFR.out.cell 3, HFR.out.cell 4, HFR.out.cell 5, HFR.out.cell 6, HFR.out.cell 7, HFR.out.cell 8]) rfl (HERR.out HN.out)
          subst k6
          have HOK : Hid (RdPost ([s0, s1, s2, s3, s4, s5, s6, s7].map (·.data.toList)) w (.returned (.tuple #[.agg #[.int .i64 ID, .int .i64 PH, .slice Av lv.length cv, .slice Ap lp.length cp, .bool NO, .int .i64 OP, .string U, .slice Aa la.length ca, .bool CH], .int .i64 pc])) F) := Lib.hid ⟨⟨⟨ID, PH, lv, lp, NO, OP, U, la, CH⟩, Av, cv, Ap, cp, Aa, ca⟩, pc, rfl, fun e => ⟨⟨rfl, HCH.out, HID.out, by show 0 ≤ ID; omega, HPH.out, by show 0 ≤ PH; omega, HVT.out rfl, HPT.out e, HOPR.out, k5, HUT.out rfl, HAT.out rfl⟩, HROW.out, read_small hs3 hs6 hlv hla (HVT.out rfl) (parseIs_len (HPT.out e)) (HUT.out rfl)⟩, fun e y hy => HPF.out e y.pipe (HRI.out y hy).2.2.2.2.2.1, HFB.out⟩
          go_wp2_with fail
          rw [HF.out]
          exact bodyPost_ret (v := .tuple #[.agg #[.int .i64 ID, .int .i64 PH, .slice Av lv.length cv, .slice Ap lp.length cp, .bool NO, .int .i64 OP, .string U, .slice Aa la.length ca, .bool CH], .int .i64 pc]) (by simp [results, Tryz.results26, go_sem, HFR.out.cell 0, HFR.out.cell 1, HFR.out.cell 2, HFR.out.cell 3, HFR.out.cell 4, HFR.out.cell 5, HFR.out.cell 6, HFR.out.cell 7, HFR.out.cell 8]) rfl (HOK.out)
  · have d0 : ((ws.length : Int) == 8) = false := beq_eq_false_iff_ne.2 (by omega)
    have HN := Lib.hid (HBAD.out (.inl h8))
    go_enter Tryz.func26, Tryz.ntmps26
    go_wp2_with fail
    rw [← hW0]
    exact bodyPost_ret (v := .tuple #[.agg #[.int .i64 0, .int .i64 0, .slice none 0 0, .slice none 0 0, .bool false, .int .i64 0, .string (ByteArray.mk #[]), .slice none 0 0, .bool false], .int .i64 3]) (by simp [results, Tryz.results26, go_sem, hA.cell 0, hA.cell 1, hA.cell 2, hA.cell 3, hA.cell 4, hA.cell 5, hA.cell 6, hA.cell 7, hA.cell 8]) rfl (HZERO.out W0 3 hb0 (by decide) HN.out)
end Go.Proofs.YtdkbfljhfhjofaaGreatDoor
