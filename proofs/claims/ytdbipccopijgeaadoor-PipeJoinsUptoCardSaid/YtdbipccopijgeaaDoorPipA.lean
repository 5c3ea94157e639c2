/- Rows of ints of the call's own; pipe's word, Check. -/
import Derived.Test.YtdbipccopijgeaaDoorPipL
import Derived.Test.YtdbipccopijgeaaDoorCFI
namespace Go.Proofs.YtdbipccopijgeaaDoor
open Go.RowKit

def OwnK (w : World) (base : Nat) (v : Value) (l : List Int) : Prop := w.ownsRow base 3 1 v l.length (l.map (Value.int .i64))
theorem OwnK.nil (w : World) (base : Nat) : OwnK w base (.slice none 0 0) [] := World.ownsRow_nil w base 3 1
theorem OwnK.below {w w' : World} {base : Nat} {v : Value} {l : List Int} (h : OwnK w base v l) (hb : Below w.heap.size w w') : OwnK w' base v l := ownsRow_below h hb
theorem OwnK.low {w : World} {base b : Nat} {v : Value} {l : List Int} (h : OwnK w base v l) (hb : b ≤ base) : OwnK w b v l :=
  ⟨h.1, h.2.imp_right fun ⟨g, cap, cur, h1, h2, h3⟩ => ⟨g, cap, cur, h1, Nat.le_trans hb h2, h3⟩⟩
theorem OwnK.form {w : World} {base : Nat} {v : Value} {l : List Int} (h : OwnK w base v l) : ∃ A c, v = .slice A l.length c ∧ l.length ≤ c ∧ Sl w w.heap.size 1 A l.length (l.map (Value.int .i64)) := by
  rcases h.2 with ⟨h1, h2⟩ | ⟨g, cap, cur, h1, hb, hg, hcap, _⟩
  · have : l = [] := List.eq_nil_of_length_eq_zero h2
    subst this
    exact ⟨none, 0, h1, Nat.le_refl _, Sl.nil _ _ _ _⟩
  · refine ⟨_, _, h1, hcap, by simp, fun hp => ⟨g, 0, rfl, ?_, fun j hj => ?_⟩⟩
    · exact ((World.ownsRow.lt h g (by rw [h1]; simp [Value.ownBlock])).2)
    · have := World.ownsRow.cells (g := g) h (by rw [h1]; simp [Value.ownBlock]) j _ (List.getElem?_eq_getElem hj)
      rw [addr_add] at this
      rw [Nat.zero_add]
      exact this
theorem info_intK : (Tryd.prog.info? 3).map (fun i => (i.zero, i.size, i.bytes)) = some (some (.int .i64 0), 1, 8) := by kernel_rfl
section
variable {ops : Array Oper} {rest : List Oper} {o : Oper} {a : Act} {Q : Exit → Act → World → Prop} {w : World}
theorem wpList_append_k (hgd : o.guard = none) (s x : Operand) (ho : o.op = .call { callee := .builtin .append, args := #[s, x], argTypes := #[24, 24] })
    (base : Nat) (v : Value) (l : List Int) (hs : a.eval s = v) (hown : OwnK w base v l) (hbase : base ≤ w.heap.size)
    (vs : List Value) (new : Int) (hv : vs = [Value.int .i64 new]) (g0 : Nat) (hg0 : w.heap.size = g0) (c : Nat) (hx : a.eval x = .slice (some ⟨g0, 0, none⟩) 1 c)
    (hbytes : l.length ≤ 1048576)
    (h : ∀ v' w', OwnK w' base v' (l ++ [new]) → Below base w w' → w.heap.size < w'.heap.size → wpList Tryd.prog ops Q rest (a.put o.dst v') w') :
    wpList Tryd.prog ops Q (o :: rest) a (w.alloc (.cells vs.toArray 3)) := by
  subst hv; subst hg0
  obtain ⟨i0, hi, hz0, hz1, hz2⟩ := info_parts info_intK
  exact wpList_plain hgd fun _ hK => wp_append_kept s x 24 ho base 3 i0 (.int .i64 0) 1 8 Tryd.underlying24 hi hz0 hz1 hz2 rfl (by decide) v l.length (l.map (Value.int .i64)) hs hown hbase [Value.int .i64 new] 1 c hx rfl
    (fun u hu => by rw [List.mem_singleton.1 hu]; rfl) (by unfold maxLen; omega) (by omega) fun v' w' h1 h2 _ h4 => hK _ _ (h v' w' (by unfold OwnK; rw [List.length_append, List.map_append]; exact h1) h2 h4)
end

def wordsV : Array Value := #[.string (ByteArray.mk #[]), .string (ByteArray.mk #[108, 111, 119, 101, 114]), .string (ByteArray.mk #[117, 114, 108]), .string (ByteArray.mk #[104, 101, 120]), .string (ByteArray.mk #[98, 97, 115, 101]), .string (ByteArray.mk #[104, 116, 109, 108]), .string (ByteArray.mk #[112, 97, 116, 104]), .string (ByteArray.mk #[115, 113, 117, 101, 101, 122, 101]), .string (ByteArray.mk #[110, 111, 110, 117, 108, 108]), .string (ByteArray.mk #[116, 114, 105, 109]), .string (ByteArray.mk #[108, 101, 110, 103, 116, 104]), .string (ByteArray.mk #[99, 109, 100])]
theorem words_at (n : Nat) (h : n ≤ 11) : wordsV[n * 1]? = some (.string (bs (wordI (n : Int)))) := by
  have hn : n = 0 ∨ n = 1 ∨ n = 2 ∨ n = 3 ∨ n = 4 ∨ n = 5 ∨ n = 6 ∨ n = 7 ∨ n = 8 ∨ n = 9 ∨ n = 10 ∨ n = 11 := by omega
  rcases hn with rfl | rfl | rfl | rfl | rfl | rfl | rfl | rfl | rfl | rfl | rfl | rfl <;> rfl
set_option maxRecDepth 100000 in
theorem check1_any (k : Int) (w : World) : Calls Tryd.prog 81 #[.int .i64 k] w (BoolPost (!okK k) w) := by
  have HO : Hid ((!okK k) = (decide (k < 1) || decide (11 < k))) := by unfold Hid okK; rw [Bool.not_not]
  by_cases c1 : k < 1
  · have d1 : decide (k < 1) = true := decide_eq_true c1
    rw [d1] at HO
    go_enter Tryd.func81, Tryd.ntmps81
    go_wp2_with fail
    go_ret
    exact ⟨by rw [HO.out]; rfl, Below.refl _ _⟩
  · have d1 : decide (k < 1) = false := decide_eq_false c1
    rw [d1] at HO
    by_cases c2 : 11 < k
    · have d2 : decide (11 < k) = true := decide_eq_true c2
      rw [d2] at HO
      go_enter Tryd.func81, Tryd.ntmps81
      go_wp2_with fail
      go_ret
      exact ⟨by rw [HO.out]; rfl, Below.refl _ _⟩
    · have d2 : decide (11 < k) = false := decide_eq_false c2
      rw [d2] at HO
      go_enter Tryd.func81, Tryd.ntmps81
      go_wp2_with fail
      go_ret
      exact ⟨by rw [HO.out]; rfl, Below.refl _ _⟩
set_option maxRecDepth 100000 in
theorem PCheckP_any (l : List Int) (A : Option Addr) (c : Nat) (w : World) (h : Sl w w.heap.size 1 A l.length (l.map (Value.int .i64))) (hl : l.length ≤ 4194304) :
    Calls Tryd.prog 54 #[.slice A l.length c] w fun e w' => e = .returned (.int .i64 (checkP l)) ∧ Below w.heap.size w w' := by
  have HC := Lib.hid ((ContFI_any 81 #[] (enters_of Tryd.func81 (by kernel_rfl) rfl) A l.length c (l.map (Value.int .i64)) (fun j => .int .i64 (l.getD j 0)) (fun j => !okK (l.getD j 0)) w h (by omega)
    (fun j hj => by rw [List.getElem?_map, List.getD_eq_getElem?_getD, List.getElem?_eq_getElem hj]; rfl) (fun W j _ _ => check1_any _ W)))
  rw [anyN_list (fun k => !okK k) l 0] at HC
  by_cases h8 : 8 < l.length
  · have HK : Hid (checkP l = 2) := by unfold Hid checkP; rw [if_pos h8]
    have d1 : decide (8 < (l.length : Int)) = true := by simp; omega
    rw [HK.out]
    go_enter Tryd.func54, Tryd.ntmps54
    go_wp2_with fail
    go_ret
    exact ⟨rfl, Below.refl _ _⟩
  · have d1 : decide (8 < (l.length : Int)) = false := by simp; omega
    have HK : Hid (checkP l = if l.any (fun k => !okK k) = true then 1 else 0) := by
      unfold Hid checkP
      rw [if_neg h8]
      cases hq : l.any (fun k => !okK k) with
      | true =>
        rw [if_neg, if_pos rfl]
        intro e
        obtain ⟨x, hx, hx2⟩ := List.any_eq_true.1 hq
        rw [List.all_eq_true.1 e x hx] at hx2
        cases hx2
      | false =>
        rw [if_pos, if_neg (by decide)]
        rw [List.all_eq_true]
        intro x hx
        have := List.any_eq_false.1 hq x hx
        simpa using this
    rw [HK.out]
    clear HK
    generalize l.any (fun k => !okK k) = bq at *
    cases bq with
    | true =>
      rw [if_pos rfl]
      go_enter Tryd.func54, Tryd.ntmps54
      go_wp2_with fail
      refine HC.out.mono ?_
      rintro e w1 ⟨rfl, hb⟩
      go_wp2_with fail
      go_ret
      exact ⟨rfl, hb⟩
    | false =>
      rw [if_neg (by decide)]
      go_enter Tryd.func54, Tryd.ntmps54
      go_wp2_with fail
      refine HC.out.mono ?_
      rintro e w1 ⟨rfl, hb⟩
      go_wp2_with fail
      go_ret
      exact ⟨rfl, hb⟩
end Go.Proofs.YtdbipccopijgeaaDoor
