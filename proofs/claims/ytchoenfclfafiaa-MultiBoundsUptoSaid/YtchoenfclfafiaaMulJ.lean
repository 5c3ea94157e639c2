/- The walk of multi.Join. -/
import Derived.Test.YtchoenfclfafiaaMulW
import Derived.Test.YtchoenfclfafiaaIdxA
import Derived.Test.YtchoenfclfafiaaArgA
import Derived.Test.YtchoenfclfafiaaBld
import Derived.Laws.Concat
namespace Go.Proofs.Ytchoenfclfafiaa
open Go.RowKit

theorem bldKeep {T e : TypeId} {B b : Nat} {p : Value} {l : List Value} {w w' : World} (h : Lib.BuilderAt T e B b p l w) (hb : Below w.heap.size w w') : Lib.BuilderAt T e B b p l w' := by
  have hlt := h.lt
  obtain ⟨hB, v, hbk, hown, hne⟩ := h
  exact ⟨hB, v, (hb.block b hlt).trans hbk, ownsRow_below hown hb, hne⟩
theorem isBldBelow {T e : TypeId} {B b : Nat} {l : List Value} {w w' : World} (h : Lib.IsBuilder T e B b l w) (hb : Below w.heap.size w w') : Lib.IsBuilder T e B b l w' :=
  h.imp (fun x => bldKeep x hb) fun x => bldKeep x hb
theorem bldCells {T e : TypeId} {B b : Nat} {l : List UInt8} {s : ByteArray} {w : World} {p : Value} (h : Lib.BuilderAt T e B b p (Lib.byteCells l ++ Lib.strCells s) w) : Lib.BuilderAt T e B b p (Lib.byteCells (l ++ s.data.toList)) w := by
  rw [Lib.strCells_eq] at h
  unfold Lib.byteCells at h ⊢
  rw [List.map_append]
  exact h
def toP (x : Pair) : PartV := (x.1.data.toList, x.2.data.toList)
def textsP (b : List UInt8) (l : List Pair) : List UInt8 := (l.map toP).flatMap (textP b)
theorem textsP_len (b : List UInt8) (hb : b.length ≤ 70) : ∀ l : List Pair, (∀ x ∈ l, x.1.size + x.2.size ≤ 4194304) → (textsP b l).length ≤ l.length * 4194504
  | [], _ => by simp [textsP]
  | x :: l, h => by
    have ih := textsP_len b hb l fun y hy => h y (by simp [hy])
    have h1 := h x (by simp)
    unfold textsP at ih ⊢
    rw [List.map_cons, List.flatMap_cons, List.length_append, List.length_cons, Nat.succ_mul]
    have h2 : (textP b (toP x)).length ≤ 4194504 := by
      unfold textP lineM toP
      have e1 : x.1.data.toList.length = x.1.size := by simp
      have e2 : x.2.data.toList.length = x.2.size := by simp
      have e3 : capL.length = 38 := rfl
      simp only [List.length_append, List.length_cons, List.length_nil, e1, e2, e3]
      omega
    omega
def JRel (l : List Pair) (b : List UInt8) (W1 : World) (g : Nat) (i : Value) (wr : World) : Prop :=
  ∃ (k : Nat) (acc : List UInt8), k ≤ l.length ∧ i = .int .i64 k ∧ Hid (acc = textsP b (l.take k)) ∧ Hid (((l.take k).map toP).any (badP b) = false) ∧ Lib.IsBuilder 83 5 g g (Lib.byteCells acc) wr ∧ Below g W1 wr
def JoinPost (l : List PartV) (b : List UInt8) (w : World) (e : Ending) (w' : World) : Prop :=
  e = .returned (.tuple #[.string (if joinE l b = 0 then bs (joinM l b) else ByteArray.mk #[]), .int .i64 (joinE l b)]) ∧ Below w.heap.size w w'

set_option maxRecDepth 100000 in
set_option maxHeartbeats 6400000 in
theorem MJoin_any (l : List Pair) (A : Option Addr) (c : Nat) (b : ByteArray) (w : World) (h : Sl w w.heap.size 2 A l.length (l.flatMap cellsA)) (hz : ∀ x ∈ l, x.1.size + x.2.size ≤ 4194304) (hb : b.size ≤ maxLen) (hlib : LibOk w) :
    Calls Try.prog 17 #[.slice A l.length c, .string b] w (JoinPost (l.map toP) b.data.toList w) := by
  have HR := Lib.hid (right_any b w hb)
  unfold maxLen at hb
  have hlm : (l.map toP).length = l.length := List.length_map _
  have HJE : Hid (joinE (l.map toP) b.data.toList = if rightB b.data.toList = false then 1 else if 20 < l.length then 2 else if (l.map toP).any (badP b.data.toList) = true then 4 else 0) := by
    unfold Hid joinE; rw [hlm]
  have HERR : Hid (∀ x W, joinE (l.map toP) b.data.toList = x → x ≠ 0 → Below w.heap.size w W → JoinPost (l.map toP) b.data.toList w (.returned (.tuple #[.string (ByteArray.mk #[]), .int .i64 x])) W) := fun x W h1 h2 h3 => by
    subst h1
    exact ⟨by rw [if_neg h2], h3⟩
  clear hlm
  cases hrb : rightB b.data.toList with
  | false =>
    rw [hrb] at HR HJE
    have HP := Lib.hid (HERR.out 1 w HJE.out (by decide) (Below.refl _ _))
    clear HJE HERR hrb h hz hlib
    go_enter Try.func17, Try.ntmps17
    go_wp2_with (go_at_call 37; apply Hid.out)
    unfold Hid
    refine HR.out.mono ?_
    rintro e w1 ⟨rfl, rfl⟩
    go_wp2_with fail
    exact bodyPost_ret (v := .tuple #[.string (ByteArray.mk #[]), .int .i64 1]) (by simp [results, Try.results17, go_sem]) rfl HP.out
  | true =>
  have hbl := (right_len hrb).2
  have hbs : b.data.toList.length = b.size := by simp
  have hb70 : b.size ≤ 70 := by omega
  rw [hrb] at HR
  by_cases hlong : 20 < l.length
  · have d1 : decide ((20 : Int) < (l.length : Int)) = true := decide_eq_true (by omega)
    have HP := Lib.hid (HERR.out 2 w (by rw [HJE.out, hrb, if_neg (by decide), if_pos hlong]) (by decide) (Below.refl _ _))
    clear HJE HERR hrb h hz hlib
    go_enter Try.func17, Try.ntmps17
    go_wp2_with (go_at_call 37; apply Hid.out)
    unfold Hid
    refine HR.out.mono ?_
    rintro e w1 ⟨rfl, rfl⟩
    go_wp2_with fail
    exact bodyPost_ret (v := .tuple #[.string (ByteArray.mk #[]), .int .i64 2]) (by simp [results, Try.results17, go_sem]) rfl HP.out
  have hl20 : l.length ≤ 20 := by omega
  have d1 : decide ((20 : Int) < (l.length : Int)) = false := decide_eq_false (by omega)
  have k2 : (ByteArray.mk #[45, 45]).size + b.size ≤ 9223372036854775807 := by show 2 + b.size ≤ _; omega
  have HJ2 : Hid (joinE (l.map toP) b.data.toList = if (l.map toP).any (badP b.data.toList) = true then 4 else 0) := by unfold Hid; rw [HJE.out, hrb, if_neg (by decide), if_neg hlong]
  have HLN : Hid ((ByteArray.mk #[45, 45] ++ b).data.toList = lineM b.data.toList) := by unfold Hid lineM; simp
  have HLNs : (ByteArray.mk #[45, 45] ++ b).size = b.size + 2 := by rw [ByteArray.size_append]; show 2 + b.size = _; omega
  have hbl0 := Lib.fresh_isBuilder 83 5 w
  have hb0 := (Below.refl w.heap.size w).alloc (Nat.le_refl _) (.cells #[.pointer none, .slice none 0 0] 83)
  have HST : Hid (JRel l b.data.toList w w.heap.size (.int .i64 0) (w.alloc (.cells #[.pointer none, .slice none 0 0] 83))) := ⟨0, [], Nat.zero_le _, rfl, by unfold Hid textsP; simp, by unfold Hid; simp, hbl0, hb0⟩
  have HTL : Hid (∀ k, (textsP b.data.toList (l.take k)).length ≤ 83890080) := fun k => by
    have h1 := textsP_len b.data.toList (by omega) (l.take k) fun x hx => hz x (List.mem_of_mem_take hx)
    rw [List.length_take] at h1
    have : min k l.length * 4194504 ≤ 20 * 4194504 := Nat.mul_le_mul_right _ (by omega)
    omega
  have HBX : Hid (∀ W, Below w.heap.size w W → Sl W W.heap.size 2 A l.length (l.flatMap cellsA) ∧ LibOk W) := fun W hb => ⟨(h.below hb).more hb.size, hlib.below hb⟩
  have HHZ := Lib.hid hz
  clear HJE hrb h hz hlib hlong hbl hbs hbl0 hb0
  go_enter Try.func17, Try.ntmps17
  go_wp2_with (go_at_call 37; apply Hid.out)
  unfold Hid
  refine HR.out.mono ?_
  rintro e w1 ⟨rfl, rfl⟩
  go_wp2_with fail
  generalize ByteArray.mk #[45, 45] ++ b = LN at *
  clear HR k2
  go_loopw [20] (fun i wr => JRel l b.data.toList w1 w1.heap.size i wr) (fun i _ => l.length - (intOf i).toNat)
  case atStart => exact HST.out
  case round =>
    obtain ⟨k, acc, hk, rfl, HL, HG, hbd, hb2⟩ := hrel
    have hll : acc.length ≤ 83890080 := by rw [HL.out]; exact HTL.out k
    have hgw : w1.heap.size ≤ wr.heap.size := hb2.size
    obtain ⟨hsl, hlk⟩ := HBX.out wr hb2
    clear HST
    by_cases hlt : k < l.length
    · have d2 : decide ((k : Int) < (l.length : Int)) = true := decide_eq_true (by omega)
      have i7 : IntKind.i64.wrap ((k : Int) + 1) = (k : Int) + 1 := IntWalk.i64_in _ (by omega)
      obtain ⟨ba, off, rfl, hbB, x0, x1⟩ := arg_at hsl k hlt
      have hsz := HHZ.out l[k] (List.getElem_mem hlt)
      have HN : Hid (textsP b.data.toList (l.take (k + 1)) = textsP b.data.toList (l.take k) ++ textP b.data.toList (toP l[k])) := by
        unfold Hid textsP
        rw [List.take_succ_eq_append_getElem hlt, List.map_append, List.flatMap_append, List.map_cons, List.map_nil, List.flatMap_cons, List.flatMap_nil, List.append_nil]
      have HG2 : Hid (((l.take (k + 1)).map toP).any (badP b.data.toList) = badP b.data.toList (toP l[k])) := by
        unfold Hid
        rw [List.take_succ_eq_append_getElem hlt, List.map_append, List.any_append, HG.out, List.map_cons, List.map_nil, List.any_cons, List.any_nil, Bool.false_or, Bool.or_false]
      have HBAD : Hid (badP b.data.toList (toP l[k]) = true → joinE (l.map toP) b.data.toList = 4) := fun hp => by
        rw [HJ2.out, if_pos (List.any_eq_true.2 ⟨toP l[k], List.mem_map.2 ⟨l[k], List.getElem_mem hlt, rfl⟩, hp⟩)]
      generalize l[k] = X at *
      obtain ⟨n, v⟩ := X
      dsimp only at x0 x1 hsz
      have hal := (Below.refl wr.heap.size wr).alloc (Nat.le_refl _) (.cells #[.string n, .string v] 43)
      have hz6 : wr.heap.size < (wr.alloc (.cells #[.string n, .string v] 43)).heap.size := by simp
      have hca := ContainsAny3_any n (wr.alloc (.cells #[.string n, .string v] 43)) (by omega)
      have eb : badP b.data.toList (toP (n, v)) = (Lib.containsAny n.data.toList specL || Lib.contains (nlL ++ v.data.toList) (nlL ++ lineM b.data.toList)) := rfl
      rw [eb] at HG2 HBAD
      have HCA := Lib.hid hca
      have hbd0 := isBldBelow hbd hal
      have HB2 := Lib.hid hb2
      have k3 : (ByteArray.mk #[13, 10]).size + v.size ≤ 9223372036854775807 := by show 2 + v.size ≤ _; omega
      have k4 : (ByteArray.mk #[13, 10]).size + LN.size ≤ 9223372036854775807 := by show 2 + LN.size ≤ _; omega
      clear hca eb hbd hb2 hlk hsl
      generalize hcv : Lib.containsAny n.data.toList specL = ca at *
      clear hcv
      go_wp2_with (go_at_call 38; apply Hid.out)
      unfold Hid
      refine HCA.out.mono ?_
      rintro e w3 ⟨rfl, hb3⟩
      have hbd3 := isBldBelow hbd0 hb3
      have ⟨g0, g1⟩ : w3.cell? ⟨wr.heap.size, 0, none⟩ = some (.string n) ∧ w3.cell? ⟨wr.heap.size, 1, none⟩ = some (.string v) := ⟨new_cell hb3 0, new_cell hb3 1⟩
      have hbw3 : Below w1.heap.size w1 w3 := HB2.out.trans ((hal.trans (hb3.mono (Nat.le_of_lt hz6))).mono hgw)
      have HBW3 := Lib.hid hbw3
      clear HCA hal hz6 hbd0 hb3 x0 x1 hbw3 HB2
      cases ca with
      | true =>
        have HP := Lib.hid (HERR.out 4 w3 (HBAD.out rfl) (by decide) HBW3.out)
        clear HERR HBAD HG2 HN HL HG HTL HBX HHZ HJ2 hbd3 HBW3
        go_wp2_with fail
        exact bodyPost_ret (v := .tuple #[.string (ByteArray.mk #[]), .int .i64 4]) (by simp [results, Try.results17, go_sem]) rfl HP.out
      | false =>
      rw [Bool.false_or] at HG2 HBAD
      obtain ⟨m0, hm0⟩ := (HBX.out w3 HBW3.out).2
      have hct := Try.strings_Contains (ByteArray.mk #[13, 10] ++ v) (ByteArray.mk #[13, 10] ++ LN) m0 w3 (by rw [ByteArray.size_append]; show 2 + v.size < _; omega) hm0
      have e3 : (ByteArray.mk #[13, 10] ++ v).data.toList = nlL ++ v.data.toList := by simp [nlL]
      have e4 : (ByteArray.mk #[13, 10] ++ LN).data.toList = nlL ++ lineM b.data.toList := by rw [← HLN.out]; simp [nlL]
      rw [e3, e4] at hct
      have HCT := Lib.hid hct
      clear hct e3 e4 hm0
      generalize hcv : Lib.contains (nlL ++ v.data.toList) (nlL ++ lineM b.data.toList) = ct at *
      clear hcv
      go_wp2_with (go_at_call 39; apply Hid.out)
      unfold Hid
      refine HCT.out.mono ?_
      rintro e w4 ⟨rfl, rfl⟩
      cases ct with
      | true =>
        have HP := Lib.hid (HERR.out 4 w4 (HBAD.out rfl) (by decide) HBW3.out)
        clear HERR HBAD HG2 HN HL HG HTL HBX HHZ HJ2 hbd3 HBW3 HCT
        go_wp2_with fail
        exact bodyPost_ret (v := .tuple #[.string (ByteArray.mk #[]), .int .i64 4]) (by simp [results, Try.results17, go_sem]) rfl HP.out
      | false =>
        have HSZ : LN.size = b.size + 2 := HLNs
        have c1 : (ByteArray.mk #[13, 10, 67, 111, 110, 116, 101, 110, 116, 45, 68, 105, 115, 112, 111, 115, 105, 116, 105, 111, 110, 58, 32, 102, 111, 114, 109, 45, 100, 97, 116, 97, 59, 32, 110, 97, 109, 101, 61, 34]).size = 40 := rfl
        have c2 : (ByteArray.mk #[34, 13, 10, 13, 10]).size = 5 := rfl
        have c3 : (ByteArray.mk #[13, 10]).size = 2 := rfl
        have y1 : ∀ W, (Op.stringOp .add (LN) (ByteArray.mk #[13, 10, 67, 111, 110, 116, 101, 110, 116, 45, 68, 105, 115, 112, 111, 115, 105, 116, 105, 111, 110, 58, 32, 102, 111, 114, 109, 45, 100, 97, 116, 97, 59, 32, 110, 97, 109, 101, 61, 34])).run Try.prog W = .ok (.string (LN ++ (ByteArray.mk #[13, 10, 67, 111, 110, 116, 101, 110, 116, 45, 68, 105, 115, 112, 111, 115, 105, 116, 105, 111, 110, 58, 32, 102, 111, 114, 109, 45, 100, 97, 116, 97, 59, 32, 110, 97, 109, 101, 61, 34]))) W := fun W => run_string_add_sum W _ _ (by (repeat rw [ByteArray.size_append]); omega)
        have y2 : ∀ W, (Op.stringOp .add (LN ++ (ByteArray.mk #[13, 10, 67, 111, 110, 116, 101, 110, 116, 45, 68, 105, 115, 112, 111, 115, 105, 116, 105, 111, 110, 58, 32, 102, 111, 114, 109, 45, 100, 97, 116, 97, 59, 32, 110, 97, 109, 101, 61, 34])) n).run Try.prog W = .ok (.string (LN ++ (ByteArray.mk #[13, 10, 67, 111, 110, 116, 101, 110, 116, 45, 68, 105, 115, 112, 111, 115, 105, 116, 105, 111, 110, 58, 32, 102, 111, 114, 109, 45, 100, 97, 116, 97, 59, 32, 110, 97, 109, 101, 61, 34]) ++ n)) W := fun W => run_string_add_sum W _ _ (by (repeat rw [ByteArray.size_append]); omega)
        have y3 : ∀ W, (Op.stringOp .add (LN ++ (ByteArray.mk #[13, 10, 67, 111, 110, 116, 101, 110, 116, 45, 68, 105, 115, 112, 111, 115, 105, 116, 105, 111, 110, 58, 32, 102, 111, 114, 109, 45, 100, 97, 116, 97, 59, 32, 110, 97, 109, 101, 61, 34]) ++ n) (ByteArray.mk #[34, 13, 10, 13, 10])).run Try.prog W = .ok (.string (LN ++ (ByteArray.mk #[13, 10, 67, 111, 110, 116, 101, 110, 116, 45, 68, 105, 115, 112, 111, 115, 105, 116, 105, 111, 110, 58, 32, 102, 111, 114, 109, 45, 100, 97, 116, 97, 59, 32, 110, 97, 109, 101, 61, 34]) ++ n ++ (ByteArray.mk #[34, 13, 10, 13, 10]))) W := fun W => run_string_add_sum W _ _ (by (repeat rw [ByteArray.size_append]); omega)
        have y4 : ∀ W, (Op.stringOp .add (LN ++ (ByteArray.mk #[13, 10, 67, 111, 110, 116, 101, 110, 116, 45, 68, 105, 115, 112, 111, 115, 105, 116, 105, 111, 110, 58, 32, 102, 111, 114, 109, 45, 100, 97, 116, 97, 59, 32, 110, 97, 109, 101, 61, 34]) ++ n ++ (ByteArray.mk #[34, 13, 10, 13, 10])) v).run Try.prog W = .ok (.string (LN ++ (ByteArray.mk #[13, 10, 67, 111, 110, 116, 101, 110, 116, 45, 68, 105, 115, 112, 111, 115, 105, 116, 105, 111, 110, 58, 32, 102, 111, 114, 109, 45, 100, 97, 116, 97, 59, 32, 110, 97, 109, 101, 61, 34]) ++ n ++ (ByteArray.mk #[34, 13, 10, 13, 10]) ++ v)) W := fun W => run_string_add_sum W _ _ (by (repeat rw [ByteArray.size_append]); omega)
        have y5 : ∀ W, (Op.stringOp .add (LN ++ (ByteArray.mk #[13, 10, 67, 111, 110, 116, 101, 110, 116, 45, 68, 105, 115, 112, 111, 115, 105, 116, 105, 111, 110, 58, 32, 102, 111, 114, 109, 45, 100, 97, 116, 97, 59, 32, 110, 97, 109, 101, 61, 34]) ++ n ++ (ByteArray.mk #[34, 13, 10, 13, 10]) ++ v) (ByteArray.mk #[13, 10])).run Try.prog W = .ok (.string (LN ++ (ByteArray.mk #[13, 10, 67, 111, 110, 116, 101, 110, 116, 45, 68, 105, 115, 112, 111, 115, 105, 116, 105, 111, 110, 58, 32, 102, 111, 114, 109, 45, 100, 97, 116, 97, 59, 32, 110, 97, 109, 101, 61, 34]) ++ n ++ (ByteArray.mk #[34, 13, 10, 13, 10]) ++ v ++ (ByteArray.mk #[13, 10]))) W := fun W => run_string_add_sum W _ _ (by (repeat rw [ByteArray.size_append]); omega)
        have hX : (LN ++ (ByteArray.mk #[13, 10, 67, 111, 110, 116, 101, 110, 116, 45, 68, 105, 115, 112, 111, 115, 105, 116, 105, 111, 110, 58, 32, 102, 111, 114, 109, 45, 100, 97, 116, 97, 59, 32, 110, 97, 109, 101, 61, 34]) ++ n ++ (ByteArray.mk #[34, 13, 10, 13, 10]) ++ v ++ (ByteArray.mk #[13, 10])).data.toList = textP b.data.toList (toP (n, v)) := by
          unfold textP toP
          rw [← HLN.out]
          simp only [ByteArray.data_append, Array.toList_append]
          rfl
        have hXs : (LN ++ (ByteArray.mk #[13, 10, 67, 111, 110, 116, 101, 110, 116, 45, 68, 105, 115, 112, 111, 115, 105, 116, 105, 111, 110, 58, 32, 102, 111, 114, 109, 45, 100, 97, 116, 97, 59, 32, 110, 97, 109, 101, 61, 34]) ++ n ++ (ByteArray.mk #[34, 13, 10, 13, 10]) ++ v ++ (ByteArray.mk #[13, 10])).size ≤ 4194504 := by (repeat rw [ByteArray.size_append]); omega
        have HW := Lib.hid (WriteString_any w1.heap.size w1.heap.size (Lib.byteCells acc) (LN ++ (ByteArray.mk #[13, 10, 67, 111, 110, 116, 101, 110, 116, 45, 68, 105, 115, 112, 111, 115, 105, 116, 105, 111, 110, 58, 32, 102, 111, 114, 109, 45, 100, 97, 116, 97, 59, 32, 110, 97, 109, 101, 61, 34]) ++ n ++ (ByteArray.mk #[34, 13, 10, 13, 10]) ++ v ++ (ByteArray.mk #[13, 10])) w4 hbd3 (by rw [Lib.byteCells_length]; omega) HBW3.out.size)
        have HX := Lib.hid hX
        clear hX hXs c1 c2 c3 hbd3 HERR HBAD HCT HJ2 HTL HBX HHZ k3 k4
        go_wp2_with (go_at_call 40; apply Hid.out)
        unfold Hid
        refine HW.out.mono ?_
        rintro e w5 ⟨rfl, hbd5, hb5⟩
        have hbd6 := bldCells hbd5
        rw [HX.out] at hbd6
        have hb6 : Below w1.heap.size w1 w5 := HBW3.out.trans hb5
        clear hbd5 hb5 g0 g1 y1 y2 y3 y4 y5
        go_wp2_with fail
        exact ⟨⟨k + 1, _, by omega, rfl, by unfold Hid; rw [HL.out, HN.out], by unfold Hid; rw [HG2.out], .inr hbd6, hb6⟩, by dsimp only [intOf]; omega⟩
    · obtain rfl : k = l.length := by omega
      have d2 : decide ((l.length : Int) < (l.length : Int)) = false := by simp
      have HST := Lib.hid (Try.Builder_String_any w1.heap.size w1.heap.size acc wr hbd hgw)
      have HB2 := Lib.hid hb2
      have HE : Hid (joinE (l.map toP) b.data.toList = 0) := by
        have := HG.out
        rw [List.take_length] at this
        unfold Hid
        rw [HJ2.out, if_neg (by rw [this]; decide)]
      have y1 : ∀ W, (Op.stringOp .add (ByteArray.mk acc.toArray) LN).run Try.prog W = .ok (.string (ByteArray.mk acc.toArray ++ LN)) W := fun W => run_string_add_sum W _ _ (by show acc.length + LN.size ≤ _; omega)
      have y2 : ∀ W, (Op.stringOp .add (ByteArray.mk acc.toArray ++ LN) (ByteArray.mk #[45, 45, 13, 10])).run Try.prog W = .ok (.string (ByteArray.mk acc.toArray ++ LN ++ (ByteArray.mk #[45, 45, 13, 10]))) W := fun W => run_string_add_sum W _ _ (by rw [ByteArray.size_append]; show acc.length + LN.size + 4 ≤ _; omega)
      have hX : (ByteArray.mk acc.toArray ++ LN ++ (ByteArray.mk #[45, 45, 13, 10])) = bs (joinM (l.map toP) b.data.toList) := by
        apply ByteArray.ext
        apply Array.toList_inj.1
        simp only [ByteArray.data_append, Array.toList_append, HLN.out]
        show acc ++ lineM b.data.toList ++ [45, 45, 13, 10] = joinM (l.map toP) b.data.toList
        rw [HL.out, List.take_length]
        rfl
      have HX := Lib.hid hX
      clear hX hbd hb2 hsl hlk HERR HJ2 HTL HBX HHZ HL HG
      go_wp2_with (go_at_call 41; apply Hid.out)
      unfold Hid
      refine HST.out.mono ?_
      rintro e w3 ⟨rfl, hb3⟩
      have HP : Hid (JoinPost (l.map toP) b.data.toList w1 (.returned (.tuple #[.string (ByteArray.mk acc.toArray ++ LN ++ (ByteArray.mk #[45, 45, 13, 10])), .int .i64 0])) w3) := ⟨by rw [HE.out, if_pos rfl, HX.out], HB2.out.trans hb3⟩
      clear hb3
      go_wp2_with fail
      exact bodyPost_ret (v := .tuple #[.string (ByteArray.mk acc.toArray ++ LN ++ (ByteArray.mk #[45, 45, 13, 10])), .int .i64 0]) (by simp [results, Try.results17, go_sem]) rfl HP.out
end Go.Proofs.Ytchoenfclfafiaa
