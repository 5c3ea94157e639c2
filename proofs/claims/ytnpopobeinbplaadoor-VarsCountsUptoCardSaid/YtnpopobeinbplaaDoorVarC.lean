/- The walk of VarsCounts. -/
import Derived.Test.YtnpopobeinbplaaDoorVarB
import Derived.Test.YtnpopobeinbplaaDoorVarN
import Derived.Test.YtnpopobeinbplaaDoorHexL
import Derived.Lib.ItoaMem
import Derived.Deep.CutRange
namespace Go.Proofs.YtnpopobeinbplaaDoor
open Go.RowKit

/-! The plain law. -/
theorem exP_each (v : VarV) (x : Pair) : exP [⟨v.k, 0, v.n⟩] ⟨v.k, 0, v.n⟩ x = false := rfl
theorem exP_count (v : VarV) (x : Pair) : exP [⟨v.k, 1, v.n⟩] ⟨v.k, 1, v.n⟩ x = false := rfl
theorem all_each (vf : VarV → List Pair) (v : VarV) : allP vf [⟨v.k, 0, v.n⟩] [⟨v.k, 0, v.n⟩] = vf ⟨v.k, 0, v.n⟩ := by
  unfold allP
  rw [List.flatMap_cons, List.flatMap_nil, List.append_nil]
  unfold stepP leftP
  rw [if_neg (by show ¬ (0 : Int) = 2; decide), if_neg (by show ¬ (0 : Int) = 1; decide)]
  exact List.filter_eq_self.2 fun x _ => by rw [exP_each]; rfl
theorem all_count (vf : VarV → List Pair) (v : VarV) : allP vf [⟨v.k, 1, v.n⟩] [⟨v.k, 1, v.n⟩] = oneV (bs (Lib.decDigits (vf ⟨v.k, 1, v.n⟩).length)) := by
  unfold allP
  rw [List.flatMap_cons, List.flatMap_nil, List.append_nil]
  unfold stepP leftP
  rw [if_neg (by show ¬ (1 : Int) = 2; decide), if_pos rfl, List.filter_eq_self.2 fun x _ => by rw [exP_count]; rfl, Lib.itoa_nonneg]
theorem exP_not (v : VarV) (x : Pair) (h : v.n.toList.isEmpty = true ∨ v.n.toList = x.1.toList) : exP [⟨v.k, 0, v.n⟩, ⟨v.k, 2, v.n⟩] ⟨v.k, 0, v.n⟩ x = true := by
  unfold exP exB
  simp only [List.any_cons, List.any_nil, Bool.or_false]
  rcases h with h | h
  · rw [h]; simp
  · rw [h]; simp
theorem all_not (vf : VarV → List Pair) (v : VarV) (h : ∀ x ∈ vf ⟨v.k, 0, v.n⟩, v.n.toList.isEmpty = true ∨ v.n.toList = x.1.toList) : allP vf [⟨v.k, 0, v.n⟩, ⟨v.k, 2, v.n⟩] [⟨v.k, 0, v.n⟩, ⟨v.k, 2, v.n⟩] = [] := by
  unfold allP
  rw [List.flatMap_cons, List.flatMap_cons, List.flatMap_nil, List.append_nil]
  have e2 : stepP [⟨v.k, 0, v.n⟩, ⟨v.k, 2, v.n⟩] ⟨v.k, 2, v.n⟩ (vf ⟨v.k, 2, v.n⟩) = [] := by unfold stepP; rw [if_pos rfl]
  rw [e2, List.append_nil]
  unfold stepP leftP
  rw [if_neg (by show ¬ (0 : Int) = 2; decide), if_neg (by show ¬ (0 : Int) = 1; decide)]
  exact List.filter_eq_nil_iff.2 fun x hx => by rw [exP_not v x (h x hx)]; decide
theorem only_named {l : List Pair} {name : ByteArray} {x : Pair} (h : x ∈ onlyP l name) : name.toList.isEmpty = true ∨ name.toList = x.1.toList := by
  unfold onlyP at h
  have := (List.mem_filter.1 h).2
  unfold isN at this
  rw [Bool.or_eq_true, beq_iff_eq] at this
  exact this.imp id Eq.symm
theorem named {m t b : ByteArray} {fs : List PairV} {cl : Nat} {sc : Int} {list cook : List Pair} (v : VarV) (h : v.n.toList.isEmpty = true ∨ v.k = 6 ∨ v.k = 8 ∨ v.k = 10) :
    ∀ x ∈ vfP m t b fs cl sc list cook v, v.n.toList.isEmpty = true ∨ v.n.toList = x.1.toList := fun x hx => by
  rcases h with h | h | h | h
  · exact .inl h
  · unfold vfP valP at hx
    rw [h] at hx
    exact only_named hx
  · unfold vfP valP at hx
    rw [h] at hx
    exact only_named hx
  · unfold vfP valP at hx
    rw [h] at hx
    exact only_named hx
def getB : ByteArray := ByteArray.mk #[71, 69, 84]
def tgtB : ByteArray := ByteArray.mk #[47, 97, 63, 98, 61, 99]
def nilB : ByteArray := ByteArray.mk #[]
def twoV : List VarV := [⟨6, 0, nilB⟩, ⟨6, 2, ByteArray.mk #[98]⟩]
def twoA : List Pair := [(ByteArray.mk #[97], nilB), (ByteArray.mk #[98], nilB)]
theorem two_one : allP (vfP getB tgtB nilB [] 0 0 twoA []) twoV twoV = [(ByteArray.mk #[97], nilB)] := by
  have h1 : vfP getB tgtB nilB [] 0 0 twoA [] ⟨6, 0, nilB⟩ = twoA := only_all twoA
  unfold allP twoV
  rw [List.flatMap_cons, List.flatMap_cons, List.flatMap_nil, List.append_nil, h1]
  have e2 : stepP [⟨6, 0, nilB⟩, ⟨6, 2, ByteArray.mk #[98]⟩] ⟨6, 2, ByteArray.mk #[98]⟩ (vfP getB tgtB nilB [] 0 0 twoA [] ⟨6, 2, ByteArray.mk #[98]⟩) = [] := by unfold stepP; rw [if_pos rfl]
  rw [e2, List.append_nil]
  unfold stepP leftP
  rw [if_neg (by show ¬ (0 : Int) = 2; decide), if_neg (by show ¬ (0 : Int) = 1; decide)]
  have x1 : exP [⟨6, 0, nilB⟩, ⟨6, 2, ByteArray.mk #[98]⟩] ⟨6, 0, nilB⟩ (ByteArray.mk #[97], nilB) = false := by
    unfold exP exB
    simp [Lib.toList_data]
  have x2 : exP [⟨6, 0, nilB⟩, ⟨6, 2, ByteArray.mk #[98]⟩] ⟨6, 0, nilB⟩ (ByteArray.mk #[98], nilB) = true := by
    unfold exP exB
    simp [Lib.toList_data]
  unfold twoA
  rw [List.filter_cons, List.filter_cons, x1, x2]
  rfl

def VarAt (g : Nat) (k m : Int) (n : ByteArray) (w : World) : Prop := w.heap[g]? = some (.cells #[.int .i64 k, .int .i64 m, .string n] 61 (0, 0))
theorem VarAt.cells {g : Nat} {k m : Int} {n : ByteArray} {w : World} (h : VarAt g k m n w) : w.cell? ⟨g, 0, none⟩ = some (.int .i64 k) ∧ w.cell? ⟨g, 1, none⟩ = some (.int .i64 m) ∧ w.cell? ⟨g, 2, none⟩ = some (.string n) :=
  ⟨cell_of_row w g 0 _ _ _ h, cell_of_row w g 1 _ _ _ h, cell_of_row w g 2 _ _ _ h⟩
theorem VarAt.free {g : Nat} {k m : Int} {n : ByteArray} {w : World} (h : VarAt g k m n w) (j : Nat) : w.frozen? ⟨g, j, none⟩ = false := by
  unfold VarAt at h
  simp [World.frozen?, h]
theorem VarAt.put {g : Nat} {k m : Int} {n : ByteArray} {w : World} (h : VarAt g k m n w) (u : Int) : VarAt g k u n (w.setCell ⟨g, 1, none⟩ (.int .i64 u)) := by
  unfold VarAt at *
  simp [World.setCell, Array.getElem?_modify, h]
theorem VarAt.below {g B : Nat} {k m : Int} {n : ByteArray} {w W : World} (h : VarAt g k m n w) (hb : Below B w W) (hg : g < B) : VarAt g k m n W := (hb.block g hg).trans h
def ReqW (g : Nat) (m t : ByteArray) (A : Option Addr) (n c : Nat) (b : ByteArray) (w : World) : Prop := w.heap[g]? = some (.cells #[.string m, .string t, .slice A n c, .string b] 50 (0, 0))
theorem ReqW.cells {g : Nat} {m t b : ByteArray} {A : Option Addr} {n c : Nat} {w : World} (h : ReqW g m t A n c b w) : w.cell? ⟨g, 0, none⟩ = some (.string m) ∧ w.cell? ⟨g, 1, none⟩ = some (.string t) ∧ w.cell? ⟨g, 2, none⟩ = some (.slice A n c) ∧ w.cell? ⟨g, 3, none⟩ = some (.string b) :=
  ⟨cell_of_row w g 0 _ _ _ h, cell_of_row w g 1 _ _ _ h, cell_of_row w g 2 _ _ _ h, cell_of_row w g 3 _ _ _ h⟩
theorem ReqW.below {g B : Nat} {m t b : ByteArray} {A : Option Addr} {n c : Nat} {w W : World} (h : ReqW g m t A n c b w) (hb : Below B w W) (hg : g < B) : ReqW g m t A n c b W := (hb.block g hg).trans h
theorem empty_eq (n : ByteArray) : (n.toList == []) = n.toList.isEmpty := by cases n.toList <;> rfl
set_option maxRecDepth 100000 in
set_option maxHeartbeats 6400000 in
theorem varsCounts_walk (v : VarV) (m t b : ByteArray) (fs : List PairV) (A : Option Addr) (c : Nat) (cl : Nat) (sc : Int) (list : List Pair) (Al : Option Addr) (c1 : Nat) (cook : List Pair) (Ac : Option Addr) (c2 : Nat) (w : World)
    (hin : ValIn m t b fs A list Al cook Ac w) (hz : ValSz t fs list cook cl sc) :
    Calls Tryd.prog 7 #[.agg #[.int .i64 v.k, .int .i64 v.m, .string v.n], .agg #[.string m, .string t, .slice A fs.length c, .string b], .int .u32 (cl : Int), .int .i64 sc, .slice Al list.length c1, .slice Ac cook.length c2] w fun e w' => e = .returned (.bool true) ∧ Below w.heap.size w w' := by
  obtain ⟨W0, hW0⟩ : ∃ W0, (w.alloc (.cells #[.int .i64 v.k, .int .i64 v.m, .string v.n] 61)).alloc (.cells #[.string m, .string t, .slice A fs.length c, .string b] 50) = W0 := ⟨_, rfl⟩
  have hb0 : Below w.heap.size w W0 := by rw [← hW0]; exact ((Below.refl _ _).alloc (Nat.le_refl _) _).alloc (by simp) _
  have hzz : W0.heap.size = w.heap.size + 2 := by rw [← hW0]; simp
  have ha : W0.heap[w.heap.size]? = some (.cells #[.int .i64 v.k, .int .i64 v.m, .string v.n] 61 (0, 0)) := by
    rw [← hW0]
    exact (Below.heap_alloc _ _ _ (by simp)).trans (heap_alloc_new w _)
  have hbq : W0.heap[w.heap.size + 1]? = some (.cells #[.string m, .string t, .slice A fs.length c, .string b] 50 (0, 0)) := by
    rw [← hW0]
    have := heap_alloc_new (w.alloc (.cells #[.int .i64 v.k, .int .i64 v.m, .string v.n] 61)) (.cells #[.string m, .string t, .slice A fs.length c, .string b] 50)
    rw [World.size_alloc] at this
    exact this
  have hbx : ∀ W, Below W0.heap.size W0 W → (W.heap[w.heap.size]? = some (.cells #[.int .i64 v.k, .int .i64 v.m, .string v.n] 61 (0, 0)) ∧ W.heap[w.heap.size + 1]? = some (.cells #[.string m, .string t, .slice A fs.length c, .string b] 50 (0, 0))) ∧ Below w.heap.size w W ∧ ValIn m t b fs A list Al cook Ac W := fun W h =>
    ⟨⟨(h.block _ (by omega)).trans ha, (h.block _ (by omega)).trans hbq⟩, hb0.trans (h.mono hb0.size), hin.below (hb0.trans (h.mono hb0.size))⟩
  have HBX := Lib.hid hbx
  have HW0 := Lib.hid hW0
  have HALL : Hid (∀ (l : List VarV) (A0 : Option Addr) (c0 : Nat) (W : World), ValIn m t b fs A list Al cook Ac W → Sl W W.heap.size 3 A0 l.length (l.flatMap cellsQ) → l.length ≤ 4194304 → (allP (vfP m t b fs cl sc list cook) l l).length ≤ 4194304 → Calls Tryd.prog 26 #[.slice A0 l.length c0, .agg #[.string m, .string t, .slice A fs.length c, .string b], .int .u32 (cl : Int), .int .i64 sc, .slice Al list.length c1, .slice Ac cook.length c2] W (RowA (allP (vfP m t b fs cl sc list cook) l l) W)) := fun l A0 c0 W h1 h2 h3 h4 =>
    All_any l A0 c0 m t b fs A c cl sc list Al c1 cook Ac c2 W h2 h1 hz h3 h4
  have HFIR : Hid (∀ (g1 g2 : Nat) (W : World), LibOk W → TabOk W → Sl W W.heap.size 3 (some ⟨g1, 0, none⟩) 2 (twoV.flatMap cellsQ) → Sl W W.heap.size 2 (some ⟨g2, 0, none⟩) 2 (twoA.flatMap cellsA) → Calls Tryd.prog 26 #[.slice (some ⟨g1, 0, none⟩) 2 2, .agg #[.string (ByteArray.mk #[71, 69, 84]), .string (ByteArray.mk #[47, 97, 63, 98, 61, 99]), .slice none 0 0, .string (ByteArray.mk #[])], .int .u32 0, .int .i64 0, .slice (some ⟨g2, 0, none⟩) 2 2, .slice none 0 0] W (RowA [(ByteArray.mk #[97], nilB)] W)) := fun g1 g2 W h1 h2 h3 h4 => by
    have := All_any twoV (some ⟨g1, 0, none⟩) 2 getB tgtB nilB [] none 0 0 0 twoA (some ⟨g2, 0, none⟩) 2 [] none 0 W h3 ⟨Sl.nil _ _ _ _, h4, Sl.nil _ _ _ _, h1, h2⟩ ⟨by decide, by decide, fun f hf => (by cases hf), by decide, by decide, by decide, by decide⟩ (by decide) (by rw [two_one]; decide)
    rw [two_one] at this
    exact this
  have HZ := Lib.hid hz
  have hzz1 : w.heap.size < W0.heap.size := by omega
  have hzz2 : w.heap.size + 1 < W0.heap.size := by omega
  clear hbx hW0 hz hb0 ha hbq hzz
  obtain ⟨vk, vm, vn⟩ := v
  dsimp only at *
  go_enter Tryd.func7, Tryd.ntmps7
  go_upto_region 1 with fail
  rw [HW0.out]
  go_wp2_with fail
  refine (hello_any _).mono ?_
  rintro e w1 ⟨rfl, hb1⟩
  have hs1 : Sl w1 w1.heap.size 3 (some ⟨W0.heap.size, 0, none⟩) 2 (twoV.flatMap cellsQ) := ((Sl.lit (W := W0) (cs := (twoV.flatMap cellsQ).toArray) (t := 61) (B := (W0.alloc (.cells (twoV.flatMap cellsQ).toArray 61)).heap.size) rfl (by simp) rfl rfl).below hb1).more hb1.size
  have hb1 := below_new hb1 (Nat.le_refl _)
  have hal := (Below.refl w1.heap.size w1).alloc (Nat.le_refl _) (.cells (twoA.flatMap cellsA).toArray 64)
  have hba := hb1.trans (hal.mono hb1.size)
  obtain ⟨_, _, hI1⟩ := HBX.out _ hba
  have HF := Lib.hid (HFIR.out W0.heap.size w1.heap.size (w1.alloc (.cells (twoA.flatMap cellsA).toArray 64)) hI1.lib hI1.tab ((hs1.below hal).more hal.size) (Sl.lit rfl (by simp) rfl rfl))
  have HBA := Lib.hid hba
  clear hs1 hb1 hal hba hI1 HFIR
  go_wp2_with fail
  refine HF.out.mono ?_
  rintro e w2 ⟨v2, rfl, hO2, hb2⟩
  obtain ⟨A2, d2, rfl, _⟩ := hO2.form
  have hb2 := HBA.out.trans (hb2.mono HBA.out.size)
  have ⟨⟨hva, hrq⟩, hbw2, hI2⟩ := HBX.out _ hb2
  have hva : VarAt w.heap.size vk vm vn w2 := hva
  have hrq : ReqW (w.heap.size + 1) m t A fs.length c b w2 := hrq
  have hz2 : w.heap.size + 2 ≤ w2.heap.size := Nat.le_trans hzz2 hb2.size
  have ⟨a0, a1, a2⟩ := hva.cells
  obtain ⟨T, hT⟩ : ∃ T : Bool, T = (!vn.toList.isEmpty && !(vk == 6) && !(vk == 8) && !(vk == 10)) := ⟨_, rfl⟩
  have HVA := Lib.hid hva
  have HRQ := Lib.hid hrq
  have HBW2 := Lib.hid hbw2
  have HI2 := Lib.hid hI2
  have HT := Lib.hid hT
  clear hO2 hb2 hva hrq hbw2 hI2 HF HBA HBX HW0 hT
  go_upto_region 4 with fail
  go_cut [49] from 32 to 49 (fun s49 wx => s49 = .bool T ∧ wx = w2)
  case first =>
    cases he : vn.toList.isEmpty with
    | true =>
      have e1 : T = false := by rw [HT.out, he]; rfl
      subst e1
      go_wp2_with fail
      go_meet
      exact ⟨rfl, rfl⟩
    | false =>
      cases k6 : (vk == 6) with
      | true =>
        have e1 : T = false := by rw [HT.out, he, k6]; rfl
        have k6' : (vk != 6) = false := by rw [bne, k6]; rfl
        subst e1
        go_wp2_with fail
        go_meet
        exact ⟨rfl, rfl⟩
      | false =>
        have k6' : (vk != 6) = true := by rw [bne, k6]; rfl
        cases k8 : (vk == 8) with
        | true =>
          have e1 : T = false := by rw [HT.out, he, k6, k8]; rfl
          have k8' : (vk != 8) = false := by rw [bne, k8]; rfl
          subst e1
          go_wp2_with fail
          go_meet
          exact ⟨rfl, rfl⟩
        | false =>
          have k8' : (vk != 8) = true := by rw [bne, k8]; rfl
          cases k10 : (vk == 10) with
          | true =>
            have e1 : T = false := by rw [HT.out, he, k6, k8, k10]; rfl
            have k10' : (vk != 10) = false := by rw [bne, k10]; rfl
            subst e1
            go_wp2_with fail
            go_meet
            exact ⟨rfl, rfl⟩
          | false =>
            have e1 : T = true := by rw [HT.out, he, k6, k8, k10]; rfl
            have k10' : (vk != 10) = true := by rw [bne, k10]; rfl
            subst e1
            go_wp2_with fail
            go_meet
            exact ⟨rfl, rfl⟩
  case rest =>
    obtain ⟨rfl, rfl⟩ := hcut
    cases T with
    | true =>
      go_wp2_with fail
      go_ret
      exact ⟨rfl, HBW2.out⟩
    | false =>
      have hnm : vn.toList.isEmpty = true ∨ vk = 6 ∨ vk = 8 ∨ vk = 10 := by
        have h := HT.out
        cases h0 : vn.toList.isEmpty with
        | true => exact .inl rfl
        | false =>
          right
          rw [h0] at h
          by_cases h6 : vk = 6
          · exact .inl h6
          by_cases h8 : vk = 8
          · exact .inr (.inl h8)
          by_cases h10 : vk = 10
          · exact .inr (.inr h10)
          rw [beq_eq_false_iff_ne.2 h6, beq_eq_false_iff_ne.2 h8, beq_eq_false_iff_ne.2 h10] at h
          cases h
      have HNM := Lib.hid (named (m := m) (t := t) (b := b) (fs := fs) (cl := cl) (sc := sc) (list := list) (cook := cook) ⟨vk, 0, vn⟩ hnm)
      have f1 := HVA.out.free 1
      clear HT hnm a0 a2
      go_upto_region 7 with fail
      obtain ⟨W5, hW5⟩ : ∃ W5, wc.setCell ⟨w.heap.size, 1, none⟩ (.int .i64 0) = W5 := ⟨_, rfl⟩
      have hv5 : VarAt w.heap.size vk 0 vn W5 := by rw [← hW5]; exact HVA.out.put 0
      have hq5 : ReqW (w.heap.size + 1) m t A fs.length c b W5 := by
        rw [← hW5]
        unfold ReqW
        rw [Below.heap_setCell _ _ _ _ (by show w.heap.size + 1 ≠ w.heap.size; omega)]
        exact HRQ.out
      have hb5 : Below w.heap.size w W5 := by rw [← hW5]; exact HBW2.out.setCell (p := ⟨w.heap.size, 1, none⟩) (Nat.le_refl _) _
      have hz5 : w.heap.size + 2 ≤ W5.heap.size := by rw [← hW5, World.size_setCell]; exact hz2
      have hI5 := hin.below hb5
      have HW5 := Lib.hid hW5
      have hz50 : w.heap.size < W5.heap.size := by omega
      have hz51 : w.heap.size + 1 < W5.heap.size := by omega
      have HQ5 : Hid (∀ W, Below W5.heap.size W5 W → ((W.cell? ⟨w.heap.size, 0, none⟩ = some (.int .i64 vk) ∧ W.cell? ⟨w.heap.size, 1, none⟩ = some (.int .i64 0) ∧ W.cell? ⟨w.heap.size, 2, none⟩ = some (.string vn)) ∧ W.cell? ⟨w.heap.size + 1, 0, none⟩ = some (.string m) ∧ W.cell? ⟨w.heap.size + 1, 1, none⟩ = some (.string t) ∧ W.cell? ⟨w.heap.size + 1, 2, none⟩ = some (.slice A fs.length c) ∧ W.cell? ⟨w.heap.size + 1, 3, none⟩ = some (.string b)) ∧ Below w.heap.size w W ∧ ValIn m t b fs A list Al cook Ac W) := fun W h =>
        ⟨⟨(hv5.below h hz50).cells, (hq5.below h hz51).cells⟩, hb5.trans (h.mono hb5.size), hI5.below h⟩
      obtain ⟨vals, hvals⟩ : ∃ vals, vfP m t b fs cl sc list cook ⟨vk, 0, vn⟩ = vals := ⟨_, rfl⟩
      have hvl : vals.length ≤ 4194304 := by rw [← hvals]; exact vfP_len HZ.out _
      have HE1 : Hid (allP (vfP m t b fs cl sc list cook) [⟨vk, 0, vn⟩] [⟨vk, 0, vn⟩] = vals) := by
        unfold Hid
        rw [← hvals]
        exact all_each (vfP m t b fs cl sc list cook) ⟨vk, 0, vn⟩
      have HE2 : Hid (allP (vfP m t b fs cl sc list cook) [⟨vk, 1, vn⟩] [⟨vk, 1, vn⟩] = oneV (bs (Lib.decDigits vals.length))) := by
        unfold Hid
        rw [← hvals]
        exact all_count (vfP m t b fs cl sc list cook) ⟨vk, 0, vn⟩
      have HE3 : Hid (allP (vfP m t b fs cl sc list cook) [⟨vk, 0, vn⟩, ⟨vk, 2, vn⟩] [⟨vk, 0, vn⟩, ⟨vk, 2, vn⟩] = []) := all_not (vfP m t b fs cl sc list cook) ⟨vk, 0, vn⟩ HNM.out
      have HV : Hid (∀ W, ValIn m t b fs A list Al cook Ac W → Calls Tryd.prog 23 #[.agg #[.int .i64 vk, .int .i64 0, .string vn], .agg #[.string m, .string t, .slice A fs.length c, .string b], .int .u32 (cl : Int), .int .i64 sc, .slice Al list.length c1, .slice Ac cook.length c2] W (RowA vals W)) := fun W h => by
        have := Values_any vk 0 vn m t b fs A c cl sc list Al c1 cook Ac c2 W h HZ.out
        have e : valP vk vn m t b fs cl sc list cook = vals := hvals
        rw [e] at this
        exact this
      have HC1 : Hid (∀ W g, ValIn m t b fs A list Al cook Ac W → Sl W W.heap.size 3 (some ⟨g, 0, none⟩) 1 [.int .i64 vk, .int .i64 0, .string vn] → Calls Tryd.prog 26 #[.slice (some ⟨g, 0, none⟩) 1 1, .agg #[.string m, .string t, .slice A fs.length c, .string b], .int .u32 (cl : Int), .int .i64 sc, .slice Al list.length c1, .slice Ac cook.length c2] W (RowA vals W)) := fun W g h1 h2 => by
        have := HALL.out [⟨vk, 0, vn⟩] (some ⟨g, 0, none⟩) 1 W h1 h2 (by show 1 ≤ 4194304; omega) (by rw [HE1.out]; exact hvl)
        rw [HE1.out] at this
        exact this
      have HC2 : Hid (∀ W g, ValIn m t b fs A list Al cook Ac W → Sl W W.heap.size 3 (some ⟨g, 0, none⟩) 1 [.int .i64 vk, .int .i64 1, .string vn] → Calls Tryd.prog 26 #[.slice (some ⟨g, 0, none⟩) 1 1, .agg #[.string m, .string t, .slice A fs.length c, .string b], .int .u32 (cl : Int), .int .i64 sc, .slice Al list.length c1, .slice Ac cook.length c2] W (RowA (oneV (bs (Lib.decDigits vals.length))) W)) := fun W g h1 h2 => by
        have := HALL.out [⟨vk, 1, vn⟩] (some ⟨g, 0, none⟩) 1 W h1 h2 (by show 1 ≤ 4194304; omega) (by rw [HE2.out]; show 1 ≤ 4194304; omega)
        rw [HE2.out] at this
        exact this
      have HC3 : Hid (∀ W g, ValIn m t b fs A list Al cook Ac W → Sl W W.heap.size 3 (some ⟨g, 0, none⟩) 2 [.int .i64 vk, .int .i64 0, .string vn, .int .i64 vk, .int .i64 2, .string vn] → Calls Tryd.prog 26 #[.slice (some ⟨g, 0, none⟩) 2 2, .agg #[.string m, .string t, .slice A fs.length c, .string b], .int .u32 (cl : Int), .int .i64 sc, .slice Al list.length c1, .slice Ac cook.length c2] W (RowA [] W)) := fun W g h1 h2 => by
        have := HALL.out [⟨vk, 0, vn⟩, ⟨vk, 2, vn⟩] (some ⟨g, 0, none⟩) 2 W h1 h2 (by show 2 ≤ 4194304; omega) (by rw [HE3.out]; decide)
        rw [HE3.out] at this
        exact this
      have HD : Hid (∀ W, Calls Tryd.prog 27 #[.string (bs (Lib.decDigits vals.length))] W fun e w' => e = .returned (.tuple #[.int .i64 (vals.length : Int), .int .i64 0]) ∧ w' = W) := fun W => by
        have hlen := Lib.itoa_length_le (vals.length : Int) (by omega) (by omega)
        rw [Lib.itoa_nonneg] at hlen
        have := Dec_any (bs (Lib.decDigits vals.length)) W (by rw [bs_size]; unfold maxLen; omega)
        rw [bs_toList, dec_num vals.length (by omega)] at this
        exact this
      have ⟨⟨⟨p0, p1, p2⟩, r0, r1, r2, r3⟩, _, _⟩ := HQ5.out W5 (Below.refl _ _)
      have hal := (Below.refl W5.heap.size W5).alloc (Nat.le_refl _) (.cells #[.int .i64 vk, .int .i64 0, .string vn] 61)
      have HX1 := Lib.hid (HC1.out (W5.alloc (.cells #[.int .i64 vk, .int .i64 0, .string vn] 61)) W5.heap.size (HQ5.out _ hal).2.2 (Sl.lit rfl (by simp) rfl rfl))
      rw [HW5.out]
      clear hv5 hq5 hb5 hI5 HALL HVA HRQ HBW2 HI2 HNM f1 HE1 HE2 HE3 hvals hal HC1 hW5 a1 hz2
      generalize bs (Lib.decDigits vals.length) = S at *
      go_wp2_with fail
      refine HX1.out.mono ?_
      rintro e w6 ⟨v6, rfl, hO6, hb6⟩
      obtain ⟨A6, d6, rfl, hs6⟩ := hO6.form
      have hb6 := below_new hb6 (Nat.le_refl _)
      have HS6 : Hid (∀ W, Below w6.heap.size w6 W → Sl W W.heap.size 2 A6 vals.length (vals.flatMap cellsA)) := fun W h => (hs6.below h).more h.size
      have HB6 := Lib.hid hb6
      have hz6 : W5.heap.size ≤ w6.heap.size := hb6.size
      have hz60 : w.heap.size < w6.heap.size := by omega
      have hz61 : w.heap.size + 1 < w6.heap.size := by omega
      clear p0 p1 p2 r0 r1 r2 r3
      have ⟨⟨⟨p0, p1, p2⟩, r0, r1, r2, r3⟩, _, _⟩ := HQ5.out w6 hb6
      clear hO6 hs6 hb6 HX1 HW5
      have g1 : (w6.alloc (.cells #[.int .i64 vk, .int .i64 0, .string vn] 61)).frozen? ⟨w6.heap.size, 1, none⟩ = false := new_free (Below.refl _ _) 1
      go_upto_region 10 with fail
      obtain ⟨W7, hW7⟩ : ∃ W7, w6.alloc (.cells #[.int .i64 vk, .int .i64 1, .string vn] 61) = W7 := ⟨_, rfl⟩
      have hal := (Below.refl w6.heap.size w6).alloc (Nat.le_refl _) (.cells #[.int .i64 vk, .int .i64 1, .string vn] 61)
      have hv7 : VarAt w6.heap.size vk 1 vn W7 := by rw [← hW7]; exact heap_alloc_new w6 _
      have hb67 : Below w6.heap.size w6 W7 := by rw [← hW7]; exact hal
      have hz7 : w6.heap.size < W7.heap.size := by rw [← hW7, World.size_alloc]; exact Nat.lt_succ_self _
      have hb7 := HB6.out.trans (hb67.mono hz6)
      have ⟨n0, n1, n2⟩ := hv7.cells
      clear p0 p1 p2 r0 r1 r2 r3
      have ⟨⟨⟨p0, p1, p2⟩, r0, r1, r2, r3⟩, _, _⟩ := HQ5.out W7 hb7
      have hal7 := (Below.refl W7.heap.size W7).alloc (Nat.le_refl _) (.cells #[.int .i64 vk, .int .i64 1, .string vn] 61)
      have HX2 := Lib.hid (HC2.out (W7.alloc (.cells #[.int .i64 vk, .int .i64 1, .string vn] 61)) W7.heap.size (HQ5.out _ (hb7.trans (hal7.mono hb7.size))).2.2 (Sl.lit rfl (by simp) rfl rfl))
      have hz70 : w.heap.size < W7.heap.size := by omega
      have hz71 : w.heap.size + 1 < W7.heap.size := by omega
      have HW7 := Lib.hid hW7
      have HB7 := Lib.hid hb7
      have HB67 := Lib.hid hb67
      clear hal hal7 hb7 hb67 hv7 g1 HC2 hW7
      rw [HW7.out]
      go_wp2_with fail
      refine HX2.out.mono ?_
      rintro e w8 ⟨v8, rfl, hO8, hb8⟩
      obtain ⟨A8, d8, rfl, hs8⟩ := hO8.form
      have hb8 := below_new hb8 (Nat.le_refl _)
      have HS8 : Hid (∀ W, Below w8.heap.size w8 W → Sl W W.heap.size 2 A8 1 ((oneV S).flatMap cellsA)) := fun W h => (hs8.below h).more h.size
      have HB8 := Lib.hid (HB7.out.trans (hb8.mono HB7.out.size))
      have HB68 := Lib.hid (HB67.out.trans (hb8.mono HB67.out.size))
      have hz8 : W7.heap.size ≤ w8.heap.size := hb8.size
      have hz80 : w.heap.size < w8.heap.size := by omega
      have hz81 : w.heap.size + 1 < w8.heap.size := by omega
      clear p0 p1 p2 r0 r1 r2 r3 n0 n1 n2
      have ⟨⟨⟨p0, p1, p2⟩, r0, r1, r2, r3⟩, _, _⟩ := HQ5.out w8 HB8.out
      clear hO8 hs8 hb8 HX2 HW7 HB7 HB67
      have g1 : (w8.alloc (.cells #[.int .i64 vk, .int .i64 0, .string vn] 61)).frozen? ⟨w8.heap.size, 1, none⟩ = false := new_free (Below.refl _ _) 1
      go_upto_region 13 with fail
      obtain ⟨W9, hW9⟩ : ∃ W9, w8.alloc (.cells #[.int .i64 vk, .int .i64 2, .string vn] 61) = W9 := ⟨_, rfl⟩
      have hal := (Below.refl w8.heap.size w8).alloc (Nat.le_refl _) (.cells #[.int .i64 vk, .int .i64 2, .string vn] 61)
      have hv9 : VarAt w8.heap.size vk 2 vn W9 := by rw [← hW9]; exact heap_alloc_new w8 _
      have hb89 : Below w8.heap.size w8 W9 := by rw [← hW9]; exact hal
      have hz9 : w8.heap.size < W9.heap.size := by rw [← hW9, World.size_alloc]; exact Nat.lt_succ_self _
      have hb9 := HB8.out.trans (hb89.mono HB8.out.size)
      have ⟨n0, n1, n2⟩ := hv9.cells
      clear p0 p1 p2 r0 r1 r2 r3
      have ⟨⟨⟨p0, p1, p2⟩, r0, r1, r2, r3⟩, _, _⟩ := HQ5.out W9 hb9
      have hal9 := (Below.refl W9.heap.size W9).alloc (Nat.le_refl _) (.cells #[.int .i64 vk, .int .i64 0, .string vn, .int .i64 vk, .int .i64 2, .string vn] 61)
      have HX3 := Lib.hid (HC3.out (W9.alloc (.cells #[.int .i64 vk, .int .i64 0, .string vn, .int .i64 vk, .int .i64 2, .string vn] 61)) W9.heap.size (HQ5.out _ (hb9.trans (hal9.mono hb9.size))).2.2 (Sl.lit rfl (by simp) rfl rfl))
      have hz90 : w.heap.size < W9.heap.size := by omega
      have hz91 : w.heap.size + 1 < W9.heap.size := by omega
      have HW9 := Lib.hid hW9
      have HB9 := Lib.hid hb9
      have HB89 := Lib.hid hb89
      clear hal hal9 hb9 hb89 hv9 g1 HC3 hW9
      rw [HW9.out]
      go_wp2_with fail
      refine HX3.out.mono ?_
      rintro e wA ⟨vA, rfl, hOA, hbA⟩
      obtain ⟨AA, dA, rfl, _⟩ := hOA.form
      have hbA := below_new hbA (Nat.le_refl _)
      have HBA := Lib.hid (HB9.out.trans (hbA.mono HB9.out.size))
      have HB8A := Lib.hid (HB89.out.trans (hbA.mono HB89.out.size))
      clear p0 p1 p2 r0 r1 r2 r3 n0 n1 n2
      have ⟨⟨⟨p0, p1, p2⟩, r0, r1, r2, r3⟩, _, hIA⟩ := HQ5.out wA HBA.out
      have HVA := Lib.hid (HV.out wA hIA)
      clear hOA hbA HX3 HW9 HB9 HB89 HV hIA
      go_wp2_with fail
      refine HVA.out.mono ?_
      rintro e wB ⟨vB, rfl, hOB, hbB⟩
      obtain ⟨AB, dB, rfl, hsB⟩ := hOB.form
      have h68 := HB68.out.trans ((HB8A.out.trans (hbB.mono HB8A.out.size)).mono HB68.out.size)
      have HEQ := Lib.hid (EqualA_yes vals A6 AB d6 dB wB (HS6.out wB h68) hsB hvl)
      have HBB := Lib.hid (HBA.out.trans (hbB.mono HBA.out.size))
      have HB8B := Lib.hid (HB8A.out.trans (hbB.mono HB8A.out.size))
      clear hOB hsB h68 hbB HVA p0 p1 p2 r0 r1 r2 r3
      go_wp2_with fail
      refine HEQ.out.mono ?_
      rintro e wC ⟨rfl, hbC⟩
      obtain ⟨ab, ao, rfl, _, y0, y1⟩ := arg_at (l := oneV S) (HS8.out wC (HB8B.out.trans (hbC.mono HB8B.out.size))) 0 (by show 0 < 1; omega)
      have y0 : wC.cell? ⟨ab, ao, none⟩ = some (.string (ByteArray.mk #[])) := by rw [Nat.zero_mul, Nat.add_zero] at y0; exact y0
      have y1 : wC.cell? ⟨ab, ao + 1, none⟩ = some (.string S) := by rw [Nat.zero_mul, Nat.add_zero] at y1; exact y1
      have HBC := Lib.hid (HQ5.out wC (HBB.out.trans (hbC.mono HBB.out.size))).2.1
      clear hbC HEQ
      go_wp2_with fail
      refine (HD.out _).mono ?_
      rintro e wD ⟨rfl, hwD⟩
      rw [hwD]
      go_wp2_with fail
      go_ret
      exact ⟨by simp, HBC.out⟩
theorem varsCounts_any (k m : Int) (n : ByteArray) (q : RqV) (cl sc : Int) (a1 a2 : GArg) (w : World) {v v2 v3 : Value} (x : ReqArg w v q) (hq : ReqBulk q) (hcl : 0 ≤ cl ∧ cl ≤ 4294967295) (hsc : -9223372036854775808 ≤ sc ∧ sc ≤ 9223372036854775807)
    (y : ArgsArg w v2 a1) (hb1 : bulkA a1.l ≤ 1048576 ∧ a1.l.length ≤ 1048576) (z : ArgsArg w v3 a2) (hb2 : bulkA a2.l ≤ 1048576 ∧ a2.l.length ≤ 1048576) (hlib : LibOk w) (ht : Lib.TabIs Tryd.prog w "internal/strconv.uint64pow10" .u64 Lib.pow10Tab) :
    Calls Tryd.prog 7 #[.agg #[.int .i64 k, .int .i64 m, .string n], .agg #[.string q.m, .string q.t, .slice q.A q.fs.length q.c, .string q.b], .int .u32 cl, .int .i64 sc, .slice a1.A a1.l.length a1.c, .slice a2.A a2.l.length a2.c] w fun e w' => e = .returned (.bool true) ∧ Below w.heap.size w w' := by
  obtain ⟨cn, rfl⟩ := Int.eq_ofNat_of_zero_le hcl.1
  exact varsCounts_walk ⟨k, m, n⟩ q.m q.t q.b q.fs q.A q.c cn sc a1.l a1.A a1.c a2.l a2.A a2.c w ⟨x.sl, y.sl, z.sl, hlib, TabOk.of ht⟩
    ⟨by have := hq.t; omega, by have := hq.n; omega, fun f hf => (x.sizes f hf).1, by have := hb1.2; omega, by have := hb2.2; omega, by omega, hsc⟩
end Go.Proofs.YtnpopobeinbplaaDoor
