/- The walks of wickkeep.asked and of OneBack. -/
import Derived.Test.YtnpopobeinbplaaDoorBakL
import Derived.Test.YtnpopobeinbplaaDoorFbkJ
import Derived.Test.YtnpopobeinbplaaDoorOneM
import Derived.Test.YtnpopobeinbplaaDoorOneY
import Derived.Test.YtnpopobeinbplaaDoorOpenQ
namespace Go.Proofs.YtnpopobeinbplaaDoor
open Go.RowKit

def AskedPost (h : HeadV) (b : List UInt8) (ns : List Int) (w : World) (e : Ending) (w' : World) : Prop :=
  ((∃ x : ByteArray, e = .returned (.tuple #[.string x, .bool false])) ∨ ∃ t, askedOk h b ∧ bodyT h b ns = some t ∧ t.length ≤ 65536 ∧ e = .returned (.tuple #[.string (bs (printH h ++ t)), .bool true])) ∧ Below w.heap.size w w'
theorem bs_app (x y : List UInt8) : bs x ++ bs y = bs (x ++ y) := by
  apply ByteArray.ext
  simp [bs]

set_option maxRecDepth 100000 in
set_option maxHeartbeats 3200000 in
theorem asked_any (m t b : ByteArray) (fs : List PairV) (A : Option Addr) (c : Nat) (ns : List Int) (A2 : Option Addr) (c2 : Nat) (w : World) (hf : Sl w w.heap.size 2 A fs.length (fs.flatMap cellsV)) (hA : Sl w w.heap.size 1 A2 ns.length (ns.map (Value.int .i64)))
    (hm : m.size ≤ maxLen) (ht : t.size ≤ maxLen) (hs : ∀ f ∈ fs, f.1.size ≤ maxLen ∧ f.2.size ≤ maxLen) (hl : fs.length ≤ 4398046511104) (hnl : ns.length ≤ 1048576) (htz : TzOk w) :
    Calls Tryd.prog 22 #[.agg #[.string m, .string t, .slice A fs.length c, .string b], .slice A2 ns.length c2] w (AskedPost ⟨m, t, fs⟩ b.data.toList ns w) := by
  have hbx : ∀ W, Below (w.heap.size + 1) (w.alloc (.cells #[.string m, .string t, .slice A fs.length c, .string b] 50)) W → (W.cell? ⟨w.heap.size, 0, none⟩ = some (.string m) ∧ W.cell? ⟨w.heap.size, 1, none⟩ = some (.string t) ∧ W.cell? ⟨w.heap.size, 2, none⟩ = some (.slice A fs.length c) ∧ W.cell? ⟨w.heap.size, 3, none⟩ = some (.string b)) ∧ Below w.heap.size w W ∧ Sl W W.heap.size 2 A fs.length (fs.flatMap cellsV) ∧ Sl W W.heap.size 1 A2 ns.length (ns.map (Value.int .i64)) ∧ TzOk W := fun W hb => by
    obtain ⟨h1, h2⟩ := box_facts hb
    exact ⟨⟨h1 0, h1 1, h1 2, h1 3⟩, h2, (hf.below h2).more h2.size, (hA.below h2).more h2.size, htz.below h2⟩
  have HBX := Lib.hid hbx
  obtain ⟨W0, hW0⟩ : ∃ W0, w.alloc (.cells #[.string m, .string t, .slice A fs.length c, .string b] 50) = W0 := ⟨_, rfl⟩
  have hz0 : w.heap.size + 1 ≤ W0.heap.size := by rw [← hW0]; simp
  rw [hW0] at HBX
  have HW0 := Lib.hid hW0
  have hbl : b.data.toList.length = b.size := by simp
  have hOF : ∀ W, Below (w.heap.size + 1) W0 W → Calls Tryd.prog 35 #[.agg #[.string m, .string t, .slice A fs.length c]] W (OfPost (framed ⟨m, t, fs⟩) W) := fun W h => Of_any m t A fs.length c fs W rfl (HBX.out W h).2.2.1 (fun f hf => (hs f hf).1) (fun f hf => (hs f hf).2) hl
  have hc0 := ofL_cases (getL fs clen) (getL fs tenc)
  have HAK : Hid (askedOk ⟨m, t, fs⟩ b.data.toList ↔ checkH ⟨m, t, fs⟩ = 0 ∧ (framed ⟨m, t, fs⟩).2.2 = 0 ∧ (printH ⟨m, t, fs⟩).length ≤ 4096 ∧ b.size ≤ 4096) := by unfold Hid askedOk; rw [hbl]
  have HBT : Hid (bodyT ⟨m, t, fs⟩ b.data.toList ns = if (framed ⟨m, t, fs⟩).1 = 3 then some (textC (cutP ns b.data.toList)) else if (framed ⟨m, t, fs⟩).1 = 1 ∧ b.data.toList = [] ∨ ((framed ⟨m, t, fs⟩).1 = 2 ∧ (framed ⟨m, t, fs⟩).2.1 = (b.size : Int)) then some b.data.toList else none) := by unfold Hid bodyT; rw [hbl]
  have HPR : Hid (Calls Tryd.prog 53 #[.agg #[.string m, .string t, .slice A fs.length c]] W0 (PrintPost ⟨m, t, fs⟩ W0)) := HPrint_any ⟨m, t, fs⟩ A c W0 (HBX.out W0 (Below.refl _ _)).2.2.1 hm ht hs hl
  have HPL : Hid (checkH ⟨m, t, fs⟩ = 0 → (printH ⟨m, t, fs⟩).length ≤ 31154) := fun hc => printH_len _ (head_ok hc)
  have HCH : Hid (b.size ≤ 4096 → ∀ W, Below (w.heap.size + 1) W0 W → Calls Tryd.prog 54 #[.string b, .slice A2 ns.length c2] W fun e w' => e = .returned (.string (bs (textC (cutP ns b.data.toList)))) ∧ Below W.heap.size W w') := fun h W hb => Chunked_any b ns A2 c2 W (HBX.out W hb).2.2.2.1 hnl (by omega) (HBX.out W hb).2.2.2.2
  have HTL : Hid ((textC (cutP ns b.data.toList)).length ≤ 12 * b.size + 5) := by
    unfold Hid
    have := text_len (cutP ns b.data.toList) fun d hd => cutP_some _ _ d hd
    rw [cutP_join, hbl] at this
    exact this
  change _ = 4 ∨ _ at hc0
  have hfr : (framed ⟨m, t, fs⟩).2.2 = 4 ∨ ((framed ⟨m, t, fs⟩).2.2 = 0 ∧ ((framed ⟨m, t, fs⟩).1 = 1 ∨ (framed ⟨m, t, fs⟩).1 = 3 ∨ ((framed ⟨m, t, fs⟩).1 = 2 ∧ 0 ≤ (framed ⟨m, t, fs⟩).2.1 ∧ (framed ⟨m, t, fs⟩).2.1 < 1000000000))) := hc0
  generalize framed ⟨m, t, fs⟩ = r at *
  obtain ⟨K, N, E⟩ := r
  dsimp only at hfr HAK HBT
  unfold OfPost ofV at hOF
  dsimp only at hOF
  have HOF := Lib.hid hOF
  have HFIN : Hid (∀ (x : ByteArray) W, Below w.heap.size w W → AskedPost ⟨m, t, fs⟩ b.data.toList ns w (.returned (.tuple #[.string x, .bool false])) W) := fun x W h => ⟨.inl ⟨x, rfl⟩, h⟩
  have HYES : Hid (∀ (x : List UInt8) (y : ByteArray) W, askedOk ⟨m, t, fs⟩ b.data.toList → bodyT ⟨m, t, fs⟩ b.data.toList ns = some x → x.length ≤ 65536 → y = bs (printH ⟨m, t, fs⟩ ++ x) → Below w.heap.size w W → AskedPost ⟨m, t, fs⟩ b.data.toList ns w (.returned (.tuple #[.string y, .bool true])) W) := fun x y W h1 h2 h3 h4 h => ⟨.inr ⟨x, h1, h2, h3, by rw [h4]⟩, h⟩
  have HFR := Lib.hid hfr
  have ⟨⟨b0, b1, b2, b3⟩, _⟩ := HBX.out W0 (Below.refl _ _)
  clear hbx hW0 hOF hc0 hf hA hm ht hs hl hnl htz hfr hbl
  go_enter Tryd.func22, Tryd.ntmps22
  go_upto_region 1 with fail
  rw [HW0.out]
  go_wp2_with fail
  refine HPR.out.mono ?_
  rintro e w1 hP
  obtain ⟨P, C, hPC, rfl, hb1⟩ : ∃ (P : ByteArray) (C : Int), ((checkH ⟨m, t, fs⟩ = 0 ∧ C = 0 ∧ P = bs (printH ⟨m, t, fs⟩)) ∨ (checkH ⟨m, t, fs⟩ ≠ 0 ∧ C ≠ 0)) ∧ e = .returned (.tuple #[.string P, .int .i64 C]) ∧ Below W0.heap.size W0 w1 := by
    rcases hP with ⟨h1, h2, h3⟩ | ⟨h1, h2, h3⟩
    · exact ⟨_, 0, .inl ⟨h1, rfl, rfl⟩, h2, h3⟩
    · exact ⟨_, _, .inr ⟨h1, h1⟩, h2, h3⟩
  have hb1 := hb1.mono hz0
  have hz1 : w.heap.size + 1 ≤ w1.heap.size := Nat.le_trans hz0 hb1.size
  clear b0 b1 b2 b3 hP
  have ⟨⟨b0, b1, b2, b3⟩, _⟩ := HBX.out w1 hb1
  have HPC := Lib.hid hPC
  clear hPC
  go_wp2_with fail
  refine (HOF.out w1 hb1).mono ?_
  rintro e w2 ⟨rfl, hb2⟩
  have hb2 := hb1.trans (hb2.mono hz1)
  have hz2 : w.heap.size + 1 ≤ w2.heap.size := Nat.le_trans hz0 hb2.size
  have hb3 := hb2.alloc hz2 (.cells #[.int .i64 K, .int .i64 N] 81)
  have hzz : w.heap.size < w2.heap.size := hz2
  clear b0 b1 b2 b3
  have ⟨⟨b0, b1, b2, b3⟩, hbw2, _⟩ := HBX.out w2 hb2
  have ⟨⟨e0, e1, e2, e3⟩, hbw3, _⟩ := HBX.out _ hb3
  have HB3 := Lib.hid hb3
  have HBW3 := Lib.hid hbw3
  clear hb1 hb2 hb3 hbw2 hbw3 hz1
  by_cases hC : C = 0
  · subst hC
    rcases HPC.out with ⟨hck, _, hPe⟩ | ⟨_, h⟩
    case inr => exact absurd rfl h
    have hpl := HPL.out hck
    have hPs : P.size = (printH ⟨m, t, fs⟩).length := by rw [hPe, bs_size]
    have HPE := Lib.hid hPe
    clear hPe
    rcases HFR.out with rfl | ⟨rfl, hK⟩
    · clear HPC HPE hPs hpl hck
      go_wp2_with fail
      exact bodyPost_ret (v := .tuple #[.string (ByteArray.mk #[]), .bool false]) (by simp [results, Tryd.results22, go_sem]) rfl (HFIN.out _ _ HBW3.out)
    · by_cases hpn : (printH ⟨m, t, fs⟩).length ≤ 4096
      rotate_left
      · have d1 : decide ((4096 : Int) < (P.size : Int)) = true := decide_eq_true (by omega)
        clear HPC HPE hPs hpl hck hpn
        go_wp2_with fail
        exact bodyPost_ret (v := .tuple #[.string (ByteArray.mk #[]), .bool false]) (by simp [results, Tryd.results22, go_sem]) rfl (HFIN.out _ _ HBW3.out)
      · have d1 : decide ((4096 : Int) < (P.size : Int)) = false := decide_eq_false (by omega)
        have hps : P.size ≤ 4096 := by omega
        by_cases hbn : b.size ≤ 4096
        rotate_left
        · have d2 : decide ((4096 : Int) < (b.size : Int)) = true := decide_eq_true (by omega)
          clear HPC HPE hPs hpl hck hpn hbn
          go_wp2_with fail
          exact bodyPost_ret (v := .tuple #[.string (ByteArray.mk #[]), .bool false]) (by simp [results, Tryd.results22, go_sem]) rfl (HFIN.out _ _ HBW3.out)
        · have d2 : decide ((4096 : Int) < (b.size : Int)) = false := decide_eq_false (by omega)
          have HOK : Hid (askedOk ⟨m, t, fs⟩ b.data.toList) := HAK.out.2 ⟨hck, rfl, hpn, hbn⟩
          have HY2 : Hid (∀ (x : List UInt8) W, bodyT ⟨m, t, fs⟩ b.data.toList ns = some x → x.length ≤ 65536 → Below w.heap.size w W → AskedPost ⟨m, t, fs⟩ b.data.toList ns w (.returned (.tuple #[.string (P ++ bs x), .bool true])) W) := fun x W h2 h3 h => HYES.out x _ W HOK.out h2 h3 (by rw [HPE.out]; exact bs_app _ _) h
          have HCB := Lib.hid (HCH.out hbn)
          have HBN := Lib.hid hbn
          clear HPC HPE hPs hpl hck hpn HAK HPL HPR HOF HCH HYES HOK
          rcases hK with rfl | rfl | ⟨rfl, hN1, hN2⟩
          · cases he : b.toList.isEmpty with
            | true =>
              have hbe : b.data.toList = [] := by rw [← Lib.toList_data]; simpa using he
              have HT : Hid (bodyT ⟨m, t, fs⟩ b.data.toList ns = some []) := by rw [HBT.out, hbe]; rfl
              have HEQ : Hid (P ++ b = P ++ bs []) := by unfold Hid; rw [show b = bs [] by rw [← hbe, bs_eta]]
              have y1 : ∀ W, (Op.stringOp .add P b).run Tryd.prog W = .ok (.string (P ++ b)) W := fun W => run_string_add_sum W P b (by omega)
              clear hbe
              go_wp2_with fail
              exact bodyPost_ret (v := .tuple #[.string (P ++ b), .bool true]) (by simp [results, Tryd.results22, go_sem]) rfl (by rw [HEQ.out]; exact HY2.out [] _ HT.out (by decide) HBW3.out)
            | false =>
              clear hbn
              go_wp2_with fail
              exact bodyPost_ret (v := .tuple #[.string (ByteArray.mk #[]), .bool false]) (by simp [results, Tryd.results22, go_sem]) rfl (HFIN.out _ _ HBW3.out)
          · have HT : Hid (bodyT ⟨m, t, fs⟩ b.data.toList ns = some (textC (cutP ns b.data.toList))) := by rw [HBT.out]; rfl
            have htl := HTL.out
            have HY3 : Hid (∀ W, Below w.heap.size w W → AskedPost ⟨m, t, fs⟩ b.data.toList ns w (.returned (.tuple #[.string (P ++ bs (textC (cutP ns b.data.toList))), .bool true])) W) := fun W h => HY2.out _ W HT.out (by omega) h
            have htz : (bs (textC (cutP ns b.data.toList))).size ≤ 65536 := by rw [bs_size]; omega
            generalize bs (textC (cutP ns b.data.toList)) = T at *
            have y1 : ∀ W, (Op.stringOp .add P T).run Tryd.prog W = .ok (.string (P ++ T)) W := fun W => run_string_add_sum W P T (by omega)
            clear hbn htl HTL HBT HY2 HT
            go_wp2_with fail
            refine (HCB.out _ HB3.out).mono ?_
            rintro e w4 ⟨rfl, hb4⟩
            have hb5 := HBW3.out.trans (hb4.mono HBW3.out.size)
            have HB5 := Lib.hid hb5
            clear hb4 hb5
            go_wp2_with fail
            exact bodyPost_ret (v := .tuple #[.string (P ++ T), .bool true]) (by simp [results, Tryd.results22, go_sem]) rfl (HY3.out _ HB5.out)
          · cases he : (N == (b.size : Int)) with
            | true =>
              have HT : Hid (bodyT ⟨m, t, fs⟩ b.data.toList ns = some b.data.toList) := by unfold Hid; rw [HBT.out, if_neg (by decide), if_pos (.inr ⟨rfl, by simpa using he⟩)]
              have HEQ : Hid (P ++ b = P ++ bs b.data.toList) := by unfold Hid; rw [bs_eta]
              have y1 : ∀ W, (Op.stringOp .add P b).run Tryd.prog W = .ok (.string (P ++ b)) W := fun W => run_string_add_sum W P b (by omega)
              have HLN : Hid (b.data.toList.length ≤ 65536) := by unfold Hid; rw [show b.data.toList.length = b.size by simp]; omega
              clear hbn
              go_wp2_with fail
              exact bodyPost_ret (v := .tuple #[.string (P ++ b), .bool true]) (by simp [results, Tryd.results22, go_sem]) rfl (by rw [HEQ.out]; exact HY2.out _ _ HT.out HLN.out HBW3.out)
            | false =>
              clear hbn
              go_wp2_with fail
              exact bodyPost_ret (v := .tuple #[.string (ByteArray.mk #[]), .bool false]) (by simp [results, Tryd.results22, go_sem]) rfl (HFIN.out _ _ HBW3.out)
  · have q0 : (C != 0) = true := bne_iff_ne.2 hC
    clear HPC hC
    go_wp2_with fail
    exact bodyPost_ret (v := .tuple #[.string (ByteArray.mk #[]), .bool false]) (by simp [results, Tryd.results22, go_sem]) rfl (HFIN.out _ _ HBW3.out)
end Go.Proofs.YtnpopobeinbplaaDoor
