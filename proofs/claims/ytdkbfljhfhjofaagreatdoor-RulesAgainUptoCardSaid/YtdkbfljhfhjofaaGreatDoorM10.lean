/- Part 10 of the proof: lemmas and walks that the last texts use. -/
import Derived.Test.YtdkbfljhfhjofaaGreatDoorM04
import Derived.Test.YtdkbfljhfhjofaaGreatDoorM09
import Derived.BigRegion
import Derived.BigQuiet
import Derived.Deep.QuietTactic
import Derived.Deep.RegionLaw
namespace Go.Proofs.YtdkbfljhfhjofaaGreatDoor
open Go.RowKit
def PrintPost (l : List Int) (w : World) (e : Ending) (w' : World) : Prop :=
  e = .returned (.tuple #[.string (if checkP l = 0 then bs (printP l) else bs []), .int .i64 (checkP l)]) ∧ Below w.heap.size w w'
def PrRel (l : List Int) (w : World) (v i : Value) (wr : World) : Prop :=
  ∃ k : Nat, k ≤ l.length ∧ i = .int .i64 k ∧ OwnS wr w.heap.size v ((l.take k).map fun x => bs (wordI x)) ∧ Below w.heap.size w wr
theorem join_len (c : UInt8) : ∀ ws : List (List UInt8), (∀ w ∈ ws, w.length ≤ 7) → (Lib.join ws [c]).length ≤ ws.length * 8
  | [], _ => by simp [Lib.join_nil]
  | w :: r, h => by
    have ht : ∀ r : List (List UInt8), (∀ w ∈ r, w.length ≤ 7) → (Lib.joinTail [c] r).length ≤ r.length * 8 := fun r => by
      induction r with
      | nil => intro _; simp [Lib.joinTail]
      | cons x r ih =>
        intro h
        have h1 := ih fun w hw => h w (by simp [hw])
        have h2 := h x (by simp)
        simp only [Lib.joinTail, List.map_cons, List.flatten_cons, List.length_append, List.length_cons, List.length_nil] at h1 ⊢
        omega
    rw [Lib.join_cons, List.length_append]
    have h1 := ht r fun x hx => h x (by simp [hx])
    have h2 := h w (by simp)
    simp only [List.length_cons]
    omega
set_option maxRecDepth 100000 in
set_option maxHeartbeats 1600000 in
theorem Print_any (l : List Int) (A : Option Addr) (c : Nat) (w : World) (h : Sl w w.heap.size 1 A l.length (l.map (Value.int .i64))) (hl : l.length ≤ 1048576) :
    Calls Tryz.prog 38 #[.slice A l.length c] w (PrintPost l w) := by
  have HC := Lib.hid (PCheckP_any l A c w h (by omega))
  by_cases hc : checkP l = 0
  · have hk := checkP_ok.1 hc
    have HCZ := Lib.hid hc
    by_cases hn : l = []
    · subst hn
      have HP : Hid (PrintPost [] w = fun e w' => e = .returned (.tuple #[.string (ByteArray.mk #[45]), .int .i64 0]) ∧ Below w.heap.size w w') := rfl
      rw [HP.out]
      rw [HCZ.out] at HC
      dsimp only [List.length_nil] at HC ⊢
      clear hk hc h
      go_enter Tryz.func38, Tryz.ntmps38
      go_wp2_with fail
      refine HC.out.mono ?_
      rintro e w1 ⟨rfl, hb⟩
      go_wp2_with fail
      exact bodyPost_ret (v := .tuple #[.string (ByteArray.mk #[45]), .int .i64 0]) (by simp [results, Tryz.results38, go_sem]) rfl ⟨rfl, hb⟩
    · have hpos : 0 < l.length := List.length_pos_iff.2 hn
      have HPP : Hid (printP l = Lib.join (l.map wordI) [44]) := by unfold Hid printP; rw [if_neg hn]
      have HK := Lib.hid hk.2
      have h8 := hk.1
      unfold PrintPost
      rw [HCZ.out, if_pos rfl, HPP.out]
      rw [HCZ.out] at HC
      have d0 : ((l.length : Int) == 0) = false := by rw [beq_eq_false_iff_ne]; omega
      have HJ : Hid ((Lib.join (l.map wordI) [44]).length ≤ 140737488355328) := by
        have := join_len 44 (l.map wordI) fun w hw => by
          obtain ⟨x, hx, rfl⟩ := List.mem_map.1 hw
          exact (word_ok (hk.2 x hx).1 (hk.2 x hx).2).2.2.2.2
        rw [List.length_map] at this
        unfold Hid
        omega
      clear hk hc hn
      go_enter Tryz.func38, Tryz.ntmps38
      go_wp2_with fail
      refine HC.out.mono ?_
      rintro e w1 ⟨rfl, hb⟩
      go_wp2_with fail
      go_loopw [5, 18] (fun v i wr => PrRel l w v i wr) (fun _ i _ => l.length - (intOf i).toNat)
      case atStart => exact ⟨0, Nat.zero_le _, rfl, OwnS.nil _ _, hb⟩
      case round =>
        obtain ⟨k, hk, rfl, hO, hb2⟩ := hrel
        by_cases hlt : k < l.length
        · have d1 : decide ((k : Int) < (l.length : Int)) = true := by simp; omega
          obtain ⟨b, off, rfl, hbB, hcell⟩ := (h.below hb2).src (by rw [List.length_map]; omega)
          have hc := hcell k (by rw [List.length_map]; exact hlt)
          rw [List.getElem_map] at hc
          have hr := HK.out l[k] (List.getElem_mem hlt)
          have HST : Hid ((l.take (k + 1)).map (fun x => bs (wordI x)) = (l.take k).map (fun x => bs (wordI x)) ++ [bs (wordI l[k])]) := by
            unfold Hid
            rw [List.take_succ_eq_append_getElem hlt, List.map_append]
            rfl
          generalize l[k] = x at hc hr HST
          have HW := Lib.hid (word_any x (by omega) hr.2 wr)
          have i7 : IntKind.i64.wrap ((k : Int) + 1) = (k : Int) + 1 := IntWalk.i64_in _ (by omega)
          have hz := hb2.size
          have hll : ((l.take k).map fun x => bs (wordI x)).length ≤ 8 := by rw [List.length_map, List.length_take]; omega
          generalize (l.take k).map (fun x => bs (wordI x)) = acc at hO HST hll
          obtain ⟨Ao, co, rfl, _⟩ := hO.form
          clear hcell hr
          go_wp2_with fail
          refine HW.out.mono ?_
          rintro e w2 ⟨rfl, rfl⟩
          go_wp2_with (at_builtin; refine wpList_append_s rfl (.tmp 22) (.tmp 25) rfl w.heap.size (.slice Ao acc.length co) acc rfl hO hz _ [bs (wordI x)] rfl 1 1 rfl rfl (by omega) ?_; intro v5 w5 hO5 hb5 hk5 hz5)
          exact ⟨⟨k + 1, by omega, rfl, by rw [HST.out]; exact hO5, hb2.trans hb5⟩, by dsimp only [intOf]; omega⟩
        · obtain rfl : k = l.length := by omega
          obtain ⟨Ao, co, rfl, hSo⟩ := hO.form
          have d1 : decide ((l.length : Int) < (l.length : Int)) = false := by simp
          rw [List.take_length] at hO hSo
          have hsl : (l.map fun x => bs (wordI x)).length = l.length := by rw [List.length_map]
          have hxs : (l.map fun x => bs (wordI x)).map (·.data.toList) = l.map wordI := by rw [List.map_map]; rfl
          obtain ⟨bo, oo, rfl, hbo, hco⟩ := hSo.src (by rw [List.length_map, List.length_map]; exact hpos)
          have hcap : (l.map fun x => bs (wordI x)).length ≤ co := by
            rcases hO.2 with ⟨e, _⟩ | ⟨_, _, _, e, _, _, h9, _⟩
            · cases e
            · injection e with _ _ e; rw [e]; exact h9
          have hj := Tryz.strings_Join bo oo co (l.map fun x => bs (wordI x)) ⟨#[44]⟩ wr (fun j x hx => by
            have hjl : j < ((l.map fun x => bs (wordI x)).map Value.string).length := by rw [List.length_map]; exact (List.getElem?_eq_some_iff.1 hx).1
            rw [hco j hjl, List.getElem_map]
            obtain ⟨h9, h10⟩ := List.getElem?_eq_some_iff.1 hx
            rw [h10]) hbo (by rw [hsl]; omega) hcap (by rw [hxs]; exact HJ.out)
          rw [hxs, hsl] at hj
          have HJN := Lib.hid hj
          rw [List.take_length, hsl]
          clear hj hO hSo hco hxs
          go_wp2_with fail
          refine HJN.out.mono ?_
          rintro e w5 ⟨rfl, hb5⟩
          go_wp2_with fail
          exact bodyPost_ret (v := .tuple #[.string (bs (Lib.join (l.map wordI) [44])), .int .i64 0]) (by simp [results, Tryz.results38, go_sem, bs]) rfl ⟨rfl, hb2.trans (hb5.mono hb2.size)⟩
  · have HP : Hid (PrintPost l w = fun e w' => e = .returned (.tuple #[.string (ByteArray.mk #[]), .int .i64 (checkP l)]) ∧ Below w.heap.size w w') := by unfold Hid PrintPost; rw [if_neg hc]; rfl
    rw [HP.out]
    have qc : (checkP l != 0) = true := bne_iff_ne.2 hc
    generalize checkP l = ck at *
    clear hc h HP
    go_enter Tryz.func38, Tryz.ntmps38
    go_wp2_with fail
    refine HC.out.mono ?_
    rintro e w1 ⟨rfl, hb⟩
    go_wp2_with fail
    exact bodyPost_ret (v := .tuple #[.string (ByteArray.mk #[]), .int .i64 ck]) (by simp [results, Tryz.results38, go_sem]) rfl ⟨rfl, hb⟩
end Go.Proofs.YtdkbfljhfhjofaaGreatDoor
namespace Go.Proofs.YtdkbfljhfhjofaaGreatDoor
open Go.RowKit
theorem ruCutPrefix (s p : ByteArray) (W : World) :
    Calls Tryz.prog 59 #[.string s, .string p] W fun e w' => e = .returned (.tuple #[.string (bs (Lib.trimPrefix s.data.toList p.data.toList)), .bool (Lib.hasPrefix s.data.toList p.data.toList)]) ∧ w' = W := Tryz.strings_CutPrefix s p W
theorem pre_one (c : UInt8) (l : List UInt8) : Lib.hasPrefix l [c] = (l.head? == some c) := by
  unfold Lib.hasPrefix
  cases l with
  | nil => rfl
  | cons b r =>
    by_cases h : b = c
    · subst h; simp
    · have e : [c].isPrefixOf (b :: r) = (c == b && ([] : List UInt8).isPrefixOf r) := rfl
      rw [e, beq_eq_false_iff_ne.2 (Ne.symm h)]
      simp [h]
/-- Three cells of a variable, known whole. -/
def V3 (w : World) (g : Nat) (k m : Int) (n : ByteArray) : Prop := w.heap[g]? = some (.cells #[.int .i64 k, .int .i64 m, .string n] 49 (0, 0))
section
variable {w w' : World} {g : Nat} {k m : Int} {n : ByteArray}
theorem V3.cells (h : V3 w g k m n) : w.cell? ⟨g, 0, none⟩ = some (.int .i64 k) ∧ w.cell? ⟨g, 1, none⟩ = some (.int .i64 m) ∧ w.cell? ⟨g, 2, none⟩ = some (.string n) := ⟨cell_of_row w g 0 _ _ (0, 0) h, cell_of_row w g 1 _ _ (0, 0) h, cell_of_row w g 2 _ _ (0, 0) h⟩
theorem V3.free (h : V3 w g k m n) (j : Nat) : w.frozen? ⟨g, j, none⟩ = false := by unfold V3 at h; simp [World.frozen?, h]
theorem V3.far (h : V3 w g k m n) {q : Nat} (hne : g ≠ q) (j : Nat) (u : Value) : V3 (w.setCell ⟨q, j, none⟩ u) g k m n := (Below.heap_setCell w ⟨q, j, none⟩ u g hne).trans h
theorem V3.drewN (h : V3 w g k m n) (q : Nat) : V3 (w.drewN q) g k m n := h
theorem V3.put0 (h : V3 w g k m n) (x : Int) : V3 (w.setCell ⟨g, 0, none⟩ (.int .i64 x)) g x m n := by unfold V3 at h ⊢; simp [World.setCell, Array.getElem?_modify, h]
theorem V3.put1 (h : V3 w g k m n) (x : Int) : V3 (w.setCell ⟨g, 1, none⟩ (.int .i64 x)) g k x n := by unfold V3 at h ⊢; simp [World.setCell, Array.getElem?_modify, h]
theorem V3.put2 (h : V3 w g k m n) (x : ByteArray) : V3 (w.setCell ⟨g, 2, none⟩ (.string x)) g k m x := by unfold V3 at h ⊢; simp [World.setCell, Array.getElem?_modify, h]
theorem V3.new (w : World) : V3 (w.alloc (.cells #[.int .i64 0, .int .i64 0, .string (ByteArray.mk #[])] 49)) w.heap.size 0 0 (ByteArray.mk #[]) := heap_alloc_new w _
end
theorem cutp_yes (c : UInt8) (r : List UInt8) (W : World) (s : ByteArray) (hs : s.data.toList = c :: r) :
    Calls Tryz.prog 59 #[.string s, .string (ByteArray.mk #[c])] W fun e w' => e = .returned (.tuple #[.string (bs r), .bool true]) ∧ w' = W := by
  have h := ruCutPrefix s (ByteArray.mk #[c]) W
  have e1 : Lib.hasPrefix s.data.toList [c] = true := by rw [pre_one, hs]; simp
  have e2 : Lib.trimPrefix s.data.toList [c] = r := by unfold Lib.trimPrefix; rw [e1, if_pos rfl, hs]; rfl
  rw [show (ByteArray.mk #[c]).data.toList = [c] from rfl, e1, e2] at h
  exact h
theorem cutp_no (c : UInt8) (W : World) (s : ByteArray) (hs : s.data.toList.head? ≠ some c) :
    Calls Tryz.prog 59 #[.string s, .string (ByteArray.mk #[c])] W fun e w' => e = .returned (.tuple #[.string s, .bool false]) ∧ w' = W := by
  have h := ruCutPrefix s (ByteArray.mk #[c]) W
  have e1 : Lib.hasPrefix s.data.toList [c] = false := by rw [pre_one]; exact beq_eq_false_iff_ne.2 hs
  have e2 : Lib.trimPrefix s.data.toList [c] = s.data.toList := by unfold Lib.trimPrefix; rw [e1, if_neg (by decide)]
  rw [show (ByteArray.mk #[c]).data.toList = [c] from rfl, e1, e2] at h
  exact h
theorem modeOf_0 {l : List UInt8} (h1 : l.head? ≠ some 35) (h2 : l.head? ≠ some 33) : modeOf l = (0, l) := by
  unfold modeOf
  split
  · exact absurd rfl h1
  · exact absurd rfl h2
  · rfl
def RvPost (s : List UInt8) (w : World) (e : Ending) (w' : World) : Prop :=
  ∃ (v : RuVar) (b : Bool), e = .returned (.tuple #[.agg #[.int .i64 v.k, .int .i64 v.m, .string v.n], .bool b]) ∧ (b = true → varR s = some v) ∧ (b = false → varR s = none) ∧ Below w.heap.size w w'
theorem ruPlace (nm : List (List UInt8)) (g : FuncId) (n : Nat) (hn : n ≤ 100) (eg : ∀ args w, (callFunc g args).run Tryz.prog w = .ok (.enter g args) w) (hw : ∀ (k : Int) W, 0 ≤ k → k < n + 1 → Calls Tryz.prog g #[.int .i64 k] W fun e w' => e = .returned (.string (bs (wordAt nm k))) ∧ w' = W) (x : ByteArray) (w : World) :
    Calls Tryz.prog 60 #[.string x, .int .i64 (n : Int), .func (.func g) #[] #[]] w fun e w' => e = .returned (.int .i64 (placeL nm n x.data.toList)) ∧ w' = w :=
  place_any g eg nm n x w hn fun W k h1 h2 => hw k W (by omega) (by omega)
set_option maxRecDepth 100000 in
set_option maxHeartbeats 3200000 in
theorem readVar_any (s : ByteArray) (w : World) (hlib : LibOk w) (hs : s.size ≤ 4194304) : Calls Tryz.prog 56 #[.string s] w (RvPost s.data.toList w) := by
  obtain ⟨m0, hm0⟩ := hlib
  have hpos : 0 < w.heap.size := World.block_lt_of_cell? w _ hm0
  have HLB : Hid (∀ W, Below w.heap.size w W → W.cell? ⟨0, 0, none⟩ = some (.int .i64 m0)) := fun W hb => (hb.cell (p := ⟨0, 0, none⟩) hpos).trans hm0
  have HPL : Hid (∀ (x : ByteArray) W, Calls Tryz.prog 60 #[.string x, .int .i64 12, .func (.func 85) #[] #[]] W fun e w' => e = .returned (.int .i64 (placeL varWs 12 x.data.toList)) ∧ w' = W) := fun x W => ruPlace varWs 85 12 (by decide) (enters_of Tryz.func85 (by kernel_rfl) rfl) (fun k W h1 h2 => varWord_any k h1 (by omega) W) x W
  have hB : ∀ (W1 W2 : World) (g : Nat) (u : Value), Below w.heap.size w W1 → w.heap.size ≤ g → W2 = W1.setCell ⟨g, 0, none⟩ u → Below w.heap.size w W2 := fun W1 W2 g u h1 h2 h3 => by rw [h3]; exact h1.setCell h2 _
  have hmode : (∃ r, s.data.toList = 35 :: r) ∨ (∃ r, s.data.toList = 33 :: r) ∨ (s.data.toList.head? ≠ some 35 ∧ s.data.toList.head? ≠ some 33) := by
    cases hl : s.data.toList with
    | nil => right; right; simp
    | cons b r =>
      by_cases h1 : b = 35
      · left; exact ⟨r, by rw [h1]⟩
      · by_cases h2 : b = 33
        · right; left; exact ⟨r, by rw [h2]⟩
        · right; right; simp [h1, h2]
  have hlen : s.data.toList.length = s.size := by simp
  have key : ∀ (m : Int) (t : ByteArray), modeOf s.data.toList = (m, t.data.toList) → t.size ≤ 4194304 →
      (∀ W, Below w.heap.size w W → Calls Tryz.prog 23 #[.string t, .string (ByteArray.mk #[58])] W fun e w' => e = .returned (.tuple #[.string (bs (Lib.cut t.data.toList [58]).1), .string (bs (Lib.cut t.data.toList [58]).2.1), .bool (Lib.cut t.data.toList [58]).2.2]) ∧ ∃ n, w' = W.drewN n) := fun m t _ ht W hb => Tryz.strings_Cut t ⟨#[58]⟩ m0 W (by omega) (HLB.out W hb)
  have hres : ∀ (m : Int) (t : ByteArray), modeOf s.data.toList = (m, t.data.toList) → ∀ (W : World) (b : Bool), Below w.heap.size w W → (b = true ↔ 0 < placeL varWs 12 (Lib.cut t.data.toList [58]).1 ∧ ((Lib.cut t.data.toList [58]).2.2 = true ↔ (Lib.cut t.data.toList [58]).2.1 ≠ [])) →
      RvPost s.data.toList w (.returned (.tuple #[.agg #[.int .i64 (placeL varWs 12 (Lib.cut t.data.toList [58]).1), .int .i64 m, .string (bs (Lib.cut t.data.toList [58]).2.1)], .bool b])) W := fun m t hm W b hb hiff => by
    refine ⟨⟨placeL varWs 12 (Lib.cut t.data.toList [58]).1, m, bs (Lib.cut t.data.toList [58]).2.1⟩, b, rfl, fun h => ?_, fun h => ?_, hb⟩
    · unfold varR
      rw [hm]
      dsimp only
      rw [if_pos (hiff.1 h)]
    · unfold varR
      rw [hm]
      dsimp only
      rw [if_neg (fun hh => by rw [hiff.2 hh] at h; cases h)]
  have HK := Lib.hid key
  have HR := Lib.hid hres
  clear key hres hB hm0
  obtain ⟨W0, hW0⟩ : ∃ W0, W0 = (w.alloc (.cells #[.int .i64 0, .int .i64 0, .string (ByteArray.mk #[])] 49)).alloc (.cells #[.int .i64 0, .int .i64 0, .string (ByteArray.mk #[])] 49) := ⟨_, rfl⟩
  have hA : V3 W0 w.heap.size 0 0 (ByteArray.mk #[]) := by rw [hW0]; exact (Below.heap_alloc _ _ _ (by simp)).trans (V3.new w)
  have hV : V3 W0 (w.heap.size + 1) 0 0 (ByteArray.mk #[]) := by
    have := V3.new (w.alloc (.cells #[.int .i64 0, .int .i64 0, .string (ByteArray.mk #[])] 49))
    rw [World.size_alloc] at this
    rw [hW0]; exact this
  have hb0 : Below w.heap.size w W0 := by rw [hW0]; exact ((Below.refl _ _).alloc (Nat.le_refl _) _).alloc (by simp) _
  /- behind the prefix: mode m, the rest t. -/
  have HGO : Hid (∀ (m : Int) (t : ByteArray), modeOf s.data.toList = (m, t.data.toList) → t.size ≤ 4194304 →
      ∃ (C K : Value) (kk : Int) (N : ByteArray) (ok : Bool), K = .int .i64 kk ∧ (∀ W', Below w.heap.size w W' → Calls Tryz.prog 23 #[.string t, .string (ByteArray.mk #[58])] W' fun e w' => e = .returned (.tuple #[C, .string N, .bool ok]) ∧ ∃ n, w' = W'.drewN n) ∧
        (∀ W', Calls Tryz.prog 60 #[C, .int .i64 12, .func (.func 85) #[] #[]] W' fun e w' => e = .returned (.int .i64 kk) ∧ w' = W') ∧
        (∀ (W' : World) (b : Bool), Below w.heap.size w W' → (b = true ↔ 0 < kk ∧ (ok = true ↔ N.data.toList ≠ [])) → RvPost s.data.toList w (.returned (.tuple #[.agg #[.int .i64 kk, .int .i64 m, .string N], .bool b])) W')) := fun m t hm ht =>
    ⟨_, _, placeL varWs 12 (Lib.cut t.data.toList [58]).1, bs (Lib.cut t.data.toList [58]).2.1, (Lib.cut t.data.toList [58]).2.2, rfl, HK.out m t hm ht, fun W' => HPL.out _ W', HR.out m t hm⟩
  clear HK HR HPL
  have hz : w.heap.size + 1 < W0.heap.size := by rw [hW0]; simp
  have hne1 : ¬ w.heap.size = w.heap.size + 1 := by omega
  have hne2 : ¬ w.heap.size + 1 = w.heap.size := by omega
  go_enter Tryz.func56, Tryz.ntmps56
  go_wp2_with fail
  rw [← hW0]
  clear hW0
  obtain ⟨x0, x1, x2⟩ := hV.cells
  have f1 := hV.free 1
  rcases hmode with ⟨r, hr⟩ | ⟨r, hr⟩ | ⟨h1, h2⟩
  focus
    have hm : modeOf s.data.toList = (1, (bs r).data.toList) := by rw [hr]; rfl
    obtain ⟨C, K, kk, N, ok, rfl, hcut, hpl, hres⟩ := HGO.out 1 (bs r) hm (by rw [bs_size]; have := congrArg List.length hr; rw [List.length_cons] at this; omega)
    refine (cutp_yes 35 r _ s hr).mono ?_
    rintro e w1 ⟨rfl, hw1⟩
    rw [hw1]
    clear hw1 w1
    generalize bs r = t at *
    clear hr hm HGO
    have hA1 := hA.far hne1 1 (.int .i64 1)
    have hV1 := hV.put1 1
    have hb1 := hb0.setCell (p := ⟨w.heap.size + 1, 1, none⟩) (by show w.heap.size ≤ w.heap.size + 1; omega) (.int .i64 1)
    go_wp2_with fail
    generalize W0.setCell ⟨w.heap.size + 1, 1, none⟩ (.int .i64 1) = W1 at *
  rotate_left
  focus
    have hm : modeOf s.data.toList = (2, (bs r).data.toList) := by rw [hr]; rfl
    obtain ⟨C, K, kk, N, ok, rfl, hcut, hpl, hres⟩ := HGO.out 2 (bs r) hm (by rw [bs_size]; have := congrArg List.length hr; rw [List.length_cons] at this; omega)
    refine (cutp_no 35 _ s (by rw [hr]; simp)).mono ?_
    rintro e w1 ⟨rfl, hw1⟩
    rw [hw1]
    clear hw1 w1
    have hc2 := cutp_yes 33 r W0 s hr
    generalize bs r = t at *
    have HC2 := Lib.hid hc2
    clear hr hm HGO hc2
    have hA1 := hA.far hne1 1 (.int .i64 2)
    have hV1 := hV.put1 2
    have hb1 := hb0.setCell (p := ⟨w.heap.size + 1, 1, none⟩) (by show w.heap.size ≤ w.heap.size + 1; omega) (.int .i64 2)
    go_wp2_with fail
    refine HC2.out.mono ?_
    rintro e w1 ⟨rfl, hw1⟩
    rw [hw1]
    clear hw1 w1
    go_wp2_with fail
    clear HC2
    generalize W0.setCell ⟨w.heap.size + 1, 1, none⟩ (.int .i64 2) = W1 at *
  rotate_left
  focus
    have hm : modeOf s.data.toList = (0, s.data.toList) := modeOf_0 h1 h2
    obtain ⟨C, K, kk, N, ok, rfl, hcut, hpl, hres⟩ := HGO.out 0 s hm hs
    refine (cutp_no 35 _ s h1).mono ?_
    rintro e w1 ⟨rfl, hw1⟩
    rw [hw1]
    clear hw1 w1
    have HC2 := Lib.hid (cutp_no 33 W0 s h2)
    clear hm HGO h1 h2
    have hA1 := hA
    have hV1 := hV
    have hb1 := hb0
    go_wp2_with fail
    refine HC2.out.mono ?_
    rintro e w1 ⟨rfl, hw1⟩
    rw [hw1]
    clear hw1 w1
    go_wp2_with fail
    clear HC2
    generalize W0 = W1 at *
  all_goals
    refine (hcut W1 hb1).mono ?_
    rintro e w2 ⟨rfl, nq, rfl⟩
    clear x0 x1 x2 f1 hA hV hb0 hcut hz
    have hA2 := hA1.drewN nq
    have hV2 := hV1.drewN nq
    have hb2 := below_drewN hb1 nq
    generalize W1.drewN nq = W2 at *
    clear hA1 hV1 hb1
    go_wp2_with fail
    refine (hpl W2).mono ?_
    rintro e w3 ⟨rfl, hw3⟩
    rw [hw3]
    clear hpl hw3 w3
    obtain ⟨x0, x1, x2⟩ := hV2.cells
    have f0 := hV2.free 0
    have f2 := hV2.free 2
    have hX := (hA2.far hne1 0 (.int .i64 kk)).far hne1 2 (.string N)
    have hbX := (hb2.setCell (p := ⟨w.heap.size + 1, 0, none⟩) (by show w.heap.size ≤ w.heap.size + 1; omega) (.int .i64 kk)).setCell (p := ⟨w.heap.size + 1, 2, none⟩) (by show w.heap.size ≤ w.heap.size + 1; omega) (.string N)
    have hVX := (hV2.put0 kk).put2 N
    go_upto_region 10 with fail
    generalize (W2.setCell ⟨w.heap.size + 1, 0, none⟩ (.int .i64 kk)).setCell ⟨w.heap.size + 1, 2, none⟩ (.string N) = W3 at *
    clear x0 x1 x2 f0 f2 hA2 hV2 hb2
    obtain ⟨x0, x1, x2⟩ := hVX.cells
    obtain ⟨z0, z1, z2⟩ := hX.cells
    have g0 := hX.free 0
    have g1 := hX.free 1
    have g2 := hX.free 2
    have TT : Hid (∀ m : Int, _) := fun m => (((hX.put0 kk).put1 m).put2 N).cells
    have BB : Hid (∀ m : Int, Below w.heap.size w (((W3.setCell ⟨w.heap.size, 0, none⟩ (.int .i64 kk)).setCell ⟨w.heap.size, 1, none⟩ (.int .i64 m)).setCell ⟨w.heap.size, 2, none⟩ (.string N))) := fun m => ((hbX.setCell (p := ⟨w.heap.size, 0, none⟩) (Nat.le_refl _) _).setCell (p := ⟨w.heap.size, 1, none⟩) (Nat.le_refl _) _).setCell (p := ⟨w.heap.size, 2, none⟩) (Nat.le_refl _) _
    have HRES := Lib.hid hres
    have hkz : (0 : Int) < kk ∨ ¬ (0 : Int) < kk := Decidable.em _
    have hNN : (N.data.toList = [] ∧ (N.toList == []) = true ∧ N.toList.isEmpty = true) ∨ (N.data.toList ≠ [] ∧ (N.toList == []) = false ∧ N.toList.isEmpty = false) := by
      rw [Lib.toList_data]
      cases N.data.toList with
      | nil => left; exact ⟨rfl, rfl, rfl⟩
      | cons a r => right; exact ⟨by simp, rfl, rfl⟩
    clear hres hX hVX hbX
    rcases hkz with hK | hK
    · rcases hNN with ⟨hN, n1, n2⟩ | ⟨hN, n1, n2⟩
      · cases ok
        · have HN := Lib.hid hN
          clear hN
          go_wp2_with fail
          refine bodyPost_ret ?_ rfl (HRES.out _ true ?_ (by have hN := HN.out; simp [hN, hK]))
          · simp [results, Tryz.results56, go_sem, fun m => (TT.out m).1, fun m => (TT.out m).2.1, fun m => (TT.out m).2.2]
          · exact BB.out _
        · have HN := Lib.hid hN
          clear hN
          go_wp2_with fail
          refine bodyPost_ret ?_ rfl (HRES.out _ false ?_ (by have hN := HN.out; simp [hN]))
          · simp [results, Tryz.results56, go_sem, fun m => (TT.out m).1, fun m => (TT.out m).2.1, fun m => (TT.out m).2.2]
          · exact BB.out _
      · cases ok
        · have HN := Lib.hid hN
          clear hN
          go_wp2_with fail
          refine bodyPost_ret ?_ rfl (HRES.out _ false ?_ (by have hN := HN.out; simp [hN]))
          · simp [results, Tryz.results56, go_sem, fun m => (TT.out m).1, fun m => (TT.out m).2.1, fun m => (TT.out m).2.2]
          · exact BB.out _
        · have HN := Lib.hid hN
          clear hN
          go_wp2_with fail
          refine bodyPost_ret ?_ rfl (HRES.out _ true ?_ (by have hN := HN.out; simp [hN, hK]))
          · simp [results, Tryz.results56, go_sem, fun m => (TT.out m).1, fun m => (TT.out m).2.1, fun m => (TT.out m).2.2]
          · exact BB.out _
    · go_wp2_with fail
      refine bodyPost_ret ?_ rfl (HRES.out _ false ?_ ⟨fun h => (by cases h), fun h => absurd h.1 (by omega)⟩)
      · simp [results, Tryz.results56, go_sem, fun m => (TT.out m).1, fun m => (TT.out m).2.1, fun m => (TT.out m).2.2]
      · exact BB.out _
/-- Two cells of an act, known whole. -/
def V2 (w : World) (g : Nat) (k n : Int) : Prop := w.heap[g]? = some (.cells #[.int .i64 k, .int .i64 n] 70 (0, 0))
section
variable {w w' : World} {g : Nat} {k n : Int}
theorem V2.cells (h : V2 w g k n) : w.cell? ⟨g, 0, none⟩ = some (.int .i64 k) ∧ w.cell? ⟨g, 1, none⟩ = some (.int .i64 n) := ⟨cell_of_row w g 0 _ _ (0, 0) h, cell_of_row w g 1 _ _ (0, 0) h⟩
theorem V2.free (h : V2 w g k n) (j : Nat) : w.frozen? ⟨g, j, none⟩ = false := by unfold V2 at h; simp [World.frozen?, h]
theorem V2.far (h : V2 w g k n) {q : Nat} (hne : g ≠ q) (j : Nat) (u : Value) : V2 (w.setCell ⟨q, j, none⟩ u) g k n := (Below.heap_setCell w ⟨q, j, none⟩ u g hne).trans h
theorem V2.drewN (h : V2 w g k n) (q : Nat) : V2 (w.drewN q) g k n := h
theorem V2.put0 (h : V2 w g k n) (x : Int) : V2 (w.setCell ⟨g, 0, none⟩ (.int .i64 x)) g x n := by unfold V2 at h ⊢; simp [World.setCell, Array.getElem?_modify, h]
theorem V2.put1 (h : V2 w g k n) (x : Int) : V2 (w.setCell ⟨g, 1, none⟩ (.int .i64 x)) g k x := by unfold V2 at h ⊢; simp [World.setCell, Array.getElem?_modify, h]
theorem V2.new (w : World) (k n : Int) : V2 (w.alloc (.cells #[.int .i64 k, .int .i64 n] 70)) w.heap.size k n := heap_alloc_new w _
end
def RaPost (s : List UInt8) (w : World) (e : Ending) (w' : World) : Prop :=
  ∃ (a : RuAct) (b : Bool), e = .returned (.tuple #[.agg #[.int .i64 a.k, .int .i64 a.n], .bool b]) ∧ (b = true → actR s = some a) ∧ (b = false → actR s = none) ∧ Below w.heap.size w w'
set_option maxRecDepth 100000 in
set_option maxHeartbeats 3200000 in
theorem readAct_any (s : ByteArray) (w : World) (hlib : LibOk w) (hs : s.size ≤ 4194304) : Calls Tryz.prog 58 #[.string s] w (RaPost s.data.toList w) := by
  obtain ⟨m0, hm0⟩ := hlib
  have hpos : 0 < w.heap.size := World.block_lt_of_cell? w _ hm0
  obtain ⟨W0, hW0⟩ : ∃ W0, W0 = w.alloc (.cells #[.int .i64 0, .int .i64 0] 70) := ⟨_, rfl⟩
  have hA : V2 W0 w.heap.size 0 0 := by rw [hW0]; exact V2.new w 0 0
  have hb0 : Below w.heap.size w W0 := by rw [hW0]; exact (Below.refl _ _).alloc (Nat.le_refl _) _
  have hsz0 : W0.heap.size = w.heap.size + 1 := by rw [hW0]; simp
  have hcut := Lib.hid (Tryz.strings_Cut s ⟨#[58]⟩ m0 W0 (by omega) ((hb0.cell (p := ⟨0, 0, none⟩) hpos).trans hm0))
  have HPL : Hid (∀ (x : ByteArray) W, Calls Tryz.prog 60 #[.string x, .int .i64 5, .func (.func 87) #[] #[]] W fun e w' => e = .returned (.int .i64 (placeL actWs 5 x.data.toList)) ∧ w' = W) := fun x W => ruPlace actWs 87 5 (by decide) (enters_of Tryz.func87 (by kernel_rfl) rfl) (fun k W h1 h2 => actWord_any k h1 (by omega) W) x W
  have hlen : s.data.toList.length = s.size := by simp
  have hcl : (Lib.cut s.data.toList [58]).2.1.length ≤ s.data.toList.length := (cut_len s.data.toList [58]).2
  have hnum := Lib.hid fun W => rnumber_any (bs (Lib.cut s.data.toList [58]).2.1) W (by rw [bs_size]; unfold maxLen; omega)
  have hres : ∀ (W : World) (b : Bool) (nn : Int), nn = actN s.data.toList → Below w.heap.size w W → (b = true ↔ 0 < placeL actWs 5 (Lib.cut s.data.toList [58]).1 ∧ ((Lib.cut s.data.toList [58]).2.2 = true ↔ 0 < nn)) →
      RaPost s.data.toList w (.returned (.tuple #[.agg #[.int .i64 (placeL actWs 5 (Lib.cut s.data.toList [58]).1), .int .i64 nn], .bool b])) W := fun W b nn hnn hb hiff => by
    subst hnn
    refine ⟨⟨placeL actWs 5 (Lib.cut s.data.toList [58]).1, actN s.data.toList⟩, b, rfl, fun h => ?_, fun h => ?_, hb⟩
    · unfold actR
      rw [if_pos (hiff.1 h)]
    · unfold actR
      rw [if_neg (fun hh => by rw [hiff.2 hh] at h; cases h)]
  have hpl := HPL.out (bs (Lib.cut s.data.toList [58]).1)
  rw [bs_toList] at hpl
  have hactN : actN s.data.toList = if (Lib.cut s.data.toList [58]).2.2 = true then numB 999999999 (Lib.cut s.data.toList [58]).2.1 else 0 := rfl
  rw [bs_toList] at hnum
  generalize actN s.data.toList = an at *
  change Hid (Calls _ _ _ _ fun e w' => e = .returned (.tuple #[.string (bs (Lib.cut s.data.toList [58]).1), .string (bs (Lib.cut s.data.toList [58]).2.1), .bool (Lib.cut s.data.toList [58]).2.2]) ∧ ∃ n, w' = W0.drewN n) at hcut
  generalize placeL actWs 5 (Lib.cut s.data.toList [58]).1 = kk at *
  generalize numB 999999999 (Lib.cut s.data.toList [58]).2.1 = nv at *
  generalize (Lib.cut s.data.toList [58]).2.2 = ok at *
  generalize bs (Lib.cut s.data.toList [58]).1 = C1 at *
  generalize bs (Lib.cut s.data.toList [58]).2.1 = C2 at *
  have HRES := Lib.hid hres
  have hne1 : ¬ w.heap.size = w.heap.size + 1 := by omega
  have hne2 : ¬ w.heap.size + 1 = w.heap.size := by omega
  clear hres HPL hm0 hlen hcl
  go_enter Tryz.func58, Tryz.ntmps58
  go_wp2_with fail
  rw [← hW0]
  clear hW0
  refine hcut.out.mono ?_
  rintro e w1 ⟨rfl, nq, rfl⟩
  have hA1 := hA.drewN nq
  have hb1 := below_drewN hb0 nq
  have hsz1 : (W0.drewN nq).heap.size = w.heap.size + 1 := hsz0
  generalize W0.drewN nq = W1 at *
  clear hA hb0 hsz0 hcut
  go_wp2_with fail
  refine (hpl W1).mono ?_
  rintro e w2 ⟨rfl, hw2⟩
  rw [hw2]
  clear hw2 w2 hpl
  have hV := V2.new W1 kk 0
  have hA2 : V2 (W1.alloc (.cells #[.int .i64 kk, .int .i64 0] 70)) w.heap.size 0 0 := (Below.heap_alloc _ _ _ (by rw [hsz1]; omega)).trans hA1
  have hb2 := hb1.alloc hb1.size (.cells #[.int .i64 kk, .int .i64 0] 70)
  rw [hsz1] at hV
  go_upto_region 3 with fail
  generalize W1.alloc (.cells #[.int .i64 kk, .int .i64 0] 70) = W2 at *
  clear hA1 hb1
  have HGO : Hid (∀ (W : World) (nn : Int), V2 W w.heap.size 0 0 → Below w.heap.size w W → (((W.setCell ⟨w.heap.size, 0, none⟩ (.int .i64 kk)).setCell ⟨w.heap.size, 1, none⟩ (.int .i64 nn)).cell? ⟨w.heap.size, 0, none⟩ = some (.int .i64 kk) ∧ ((W.setCell ⟨w.heap.size, 0, none⟩ (.int .i64 kk)).setCell ⟨w.heap.size, 1, none⟩ (.int .i64 nn)).cell? ⟨w.heap.size, 1, none⟩ = some (.int .i64 nn)) ∧ Below w.heap.size w ((W.setCell ⟨w.heap.size, 0, none⟩ (.int .i64 kk)).setCell ⟨w.heap.size, 1, none⟩ (.int .i64 nn))) := fun W nn h hb => ⟨((h.put0 kk).put1 nn).cells, (hb.setCell (p := ⟨w.heap.size, 0, none⟩) (Nat.le_refl _) _).setCell (p := ⟨w.heap.size, 1, none⟩) (Nat.le_refl _) _⟩
  obtain ⟨x0, x1⟩ := hV.cells
  have f1 := hV.free 1
  cases ok with
  | true =>
    rw [if_pos rfl] at hactN
    subst hactN
    have hA3 := hA2.far hne1 1 (.int .i64 an)
    have hV3 := hV.put1 an
    have hb3 := hb2.setCell (p := ⟨w.heap.size + 1, 1, none⟩) (by show w.heap.size ≤ w.heap.size + 1; omega) (.int .i64 an)
    clear x0 x1
    go_wp2_with fail
    refine (hnum.out W2).mono ?_
    rintro e w3 ⟨rfl, hw3⟩
    rw [hw3]
    clear hw3 w3
    have x0 := hV.cells.1
    have x1 := hV.cells.2
    go_upto_region 5 with fail
    generalize W2.setCell ⟨w.heap.size + 1, 1, none⟩ (.int .i64 an) = W3 at *
    clear x0 x1 f1 hV hA2 hb2
    have HAN : Hid ((an : Int) = an) := Lib.hid (rfl)
    have TT := Lib.hid (HGO.out W3 an hA3 hb3)
    obtain ⟨x0, x1⟩ := hV3.cells
    obtain ⟨z0, z1⟩ := hA3.cells
    have g0 := hA3.free 0
    have g1 := hA3.free 1
    clear HGO hA3 hV3 hb3
    by_cases hk : 0 < kk
    · by_cases hn : 0 < an
      · go_region
        all_goals
          go_wp2_with fail
          refine bodyPost_ret ?_ rfl (HRES.out _ true an (by first | rfl | exact HAN.out) ?_ (by simp [hk, hn]))
          · simp [results, Tryz.results58, go_sem, (TT.out).1.1, (TT.out).1.2]
          · exact TT.out.2.drew
      · go_region
        all_goals
          go_wp2_with fail
          refine bodyPost_ret ?_ rfl (HRES.out _ false an (by first | rfl | exact HAN.out) ?_ (by simp [hn]))
          · simp [results, Tryz.results58, go_sem, (TT.out).1.1, (TT.out).1.2]
          · exact TT.out.2.drew
    · go_region
      all_goals
        go_wp2_with fail
        refine bodyPost_ret ?_ rfl (HRES.out _ false an (by first | rfl | exact HAN.out) ?_ (⟨fun h => (by cases h), fun h => absurd h.1 (by omega)⟩))
        · simp [results, Tryz.results58, go_sem, (TT.out).1.1, (TT.out).1.2]
        · exact TT.out.2.drew
  | false =>
    rw [if_neg (by decide)] at hactN
    have hA3 := hA2
    have hV3 := hV
    have hb3 := hb2
    clear x0 x1 hnum f1
    go_upto_region 5 with fail
    generalize W2 = W3 at *
    clear hA2 hV hb2
    have HAN : Hid ((0 : Int) = an) := Lib.hid (hactN.symm)
    have TT := Lib.hid (HGO.out W3 0 hA3 hb3)
    obtain ⟨x0, x1⟩ := hV3.cells
    obtain ⟨z0, z1⟩ := hA3.cells
    have g0 := hA3.free 0
    have g1 := hA3.free 1
    clear HGO hA3 hV3 hb3
    by_cases hk : 0 < kk
    · go_region
      all_goals
        go_wp2_with fail
        refine bodyPost_ret ?_ rfl (HRES.out _ true 0 (by first | rfl | exact HAN.out) ?_ (by simp [hk]))
        · simp [results, Tryz.results58, go_sem, (TT.out).1.1, (TT.out).1.2]
        · exact TT.out.2.drew
    · go_region
      all_goals
        go_wp2_with fail
        refine bodyPost_ret ?_ rfl (HRES.out _ false 0 (by first | rfl | exact HAN.out) ?_ (⟨fun h => (by cases h), fun h => absurd h.1 (by omega)⟩))
        · simp [results, Tryz.results58, go_sem, (TT.out).1.1, (TT.out).1.2]
        · exact TT.out.2.drew
end Go.Proofs.YtdkbfljhfhjofaaGreatDoor
