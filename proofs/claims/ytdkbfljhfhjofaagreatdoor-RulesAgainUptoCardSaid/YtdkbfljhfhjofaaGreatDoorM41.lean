/- Part 41 of the proof: lemmas and walks that the last texts use. -/
import Derived.Test.YtdkbfljhfhjofaaGreatDoorM02
import Derived.Test.YtdkbfljhfhjofaaGreatDoorM03
import Derived.Test.YtdkbfljhfhjofaaGreatDoorM12
import Derived.Test.YtdkbfljhfhjofaaGreatDoorM38
import Derived.Test.YtdkbfljhfhjofaaGreatDoorM40
import Derived.Lib.Builder
import Derived.Shelf.Strings.Builder1
namespace Go.Proofs.YtdkbfljhfhjofaaGreatDoor
open Go.RowKit
theorem bld_size : (Tryz.prog.info? 61).map (·.size) = some 2 := by kernel_rfl
theorem bld_lies : liesAt Tryz.prog Tryz.prog.depth 61 (2 / Tryz.prog.cellsOf 61) 0 61 1 = true := by kernel_rfl
set_option maxHeartbeats 1000000 in
set_option maxRecDepth 100000 in
theorem copyCheck_used (b : Nat) (w : World) (h0 : w.cell? ⟨b, 0, none⟩ = some (.pointer (some ⟨b, 0, none⟩))) :
    Calls Tryz.prog 36 #[.pointer (some ⟨b, 0, none⟩)] w fun e w' => e = .returned (.tuple #[]) ∧ w' = w := by
  obtain ⟨j, hj, _⟩ := Option.map_eq_some_iff.1 bld_size
  go_enter Tryz.func36, Tryz.ntmps36
  go_wp2_with fail
  rw [Lib.run_neq_ptr_same w _ Tryz.underlying58 hj]
  go_wp2_with fail
  go_end0
  exact ⟨rfl, rfl⟩
set_option maxHeartbeats 1000000 in
set_option maxRecDepth 100000 in
theorem copyCheck_fresh (b : Nat) (w : World) (h0 : w.cell? ⟨b, 0, none⟩ = some (.pointer none)) (hsh : w.shape? b = some (61, 2)) (hfz : w.frozen? ⟨b, 0, none⟩ = false) :
    Calls Tryz.prog 36 #[.pointer (some ⟨b, 0, none⟩)] w fun e w' => e = .returned (.tuple #[]) ∧ w' = w.setCell ⟨b, 0, none⟩ (.pointer (some ⟨b, 0, none⟩)) := by
  obtain ⟨j, hj, hjs⟩ := Option.map_eq_some_iff.1 bld_size
  go_enter Tryz.func36, Tryz.ntmps36
  go_wp2_with fail
  rw [Lib.run_to_unsafe w ⟨b, 0, none⟩ Tryz.underlying58 Tryz.underlying140 hj (by rw [hjs]; decide) hsh (Nat.zero_lt_succ 1)]
  simp only [Result.andThen]
  rw [Oper.upon_value]
  go_wp2_with fail
  rw [run_callFunc_extern Tryz.func81 (by kernel_rfl) (by kernel_rfl) (by kernel_rfl) (e := Extern.AbiNoEscape.same) (by kernel_rfl)]
  rw [Lib.run_noEscape]
  simp only [Result.andThen]
  rw [Oper.upon_value]
  go_wp2_with fail
  rw [Lib.run_from_unsafe w ⟨b, 0, none⟩ Tryz.underlying140 Tryz.underlying58 hj hsh bld_lies]
  simp only [Result.andThen]
  rw [Oper.upon_value]
  go_wp2_with fail
  go_end0
  exact ⟨rfl, rfl⟩
theorem copyCheck_any (B b : Nat) (bs : List Value) (w : World) (h : Lib.IsBuilder 61 5 B b bs w) :
    Calls Tryz.prog 36 #[.pointer (some ⟨b, 0, none⟩)] w fun e w' => e = .returned (.tuple #[]) ∧ Lib.BuilderAt 61 5 B b (.pointer (some ⟨b, 0, none⟩)) bs w' ∧ Below B w w' := by
  rcases h with h | h
  · refine (copyCheck_fresh b w h.cell0 h.shape h.frozen0).mono ?_
    rintro e w' ⟨rfl, rfl⟩
    exact ⟨rfl, h.used _, (Below.refl B w).setCell (p := ⟨b, 0, none⟩) h.1 _⟩
  · refine (copyCheck_used b w h.cell0).mono ?_
    rintro e w' ⟨rfl, rfl⟩
    exact ⟨rfl, h, Below.refl B _⟩
set_option maxHeartbeats 2000000 in
set_option maxRecDepth 100000 in
theorem WriteString_any (B b : Nat) (bs : List Value) (s : ByteArray) (w : World) (h : Lib.IsBuilder 61 5 B b bs w) (hlen : bs.length + s.size ≤ 140737488355328) (hBw : B ≤ w.heap.size) :
    Calls Tryz.prog 16 #[.pointer (some ⟨b, 0, none⟩), .string s] w fun e w' => e = .returned (.tuple #[.int .i64 s.size, .nilIface]) ∧ Lib.BuilderAt 61 5 B b (.pointer (some ⟨b, 0, none⟩)) (bs ++ Lib.strCells s) w' ∧ Below B w w' := by
  obtain ⟨i0, hi, hz0, hz1, hz2⟩ := info_parts info_u8
  have HC := Lib.hid (copyCheck_any B b bs w h)
  clear h
  go_enter Tryz.func16, Tryz.ntmps16
  go_wp2_with fail
  refine HC.out.mono ?_
  rintro e w1 ⟨rfl, h1, hb1⟩
  obtain ⟨hB, v, hbk, hown, hne⟩ := h1
  have c0 : w1.cell? ⟨b, 0, none⟩ = some (.pointer (some ⟨b, 0, none⟩)) := by rw [Lib.cell_of_heap hbk]; rfl
  have c1 : w1.cell? ⟨b, 1, none⟩ = some v := by rw [Lib.cell_of_heap hbk]; rfl
  go_wp2_with (at_builtin; refine Lib.wpList_append_own_string _ rfl _ _ 59 9 rfl B 5 i0 Tryz.underlying59 Tryz.underlying9 hi hz0 hz1 hz2 _ _ _ rfl hown s rfl ?c3 ?c4 ?c5 ?_)
  case c3 => unfold maxLen; omega
  case c4 => omega
  case c5 => have := hb1.size; omega
  intro v' w2 hown' hgrow _
  have hlt : b < w1.heap.size := by
    rcases Nat.lt_or_ge b w1.heap.size with h' | h'
    · exact h'
    · simp [Array.getElem?_eq_none h'] at hbk
  have hb2 : w2.heap[b]? = some (.cells #[.pointer (some ⟨b, 0, none⟩), v] 61 (0, 0)) := by
    rw [hgrow.block b hlt (fun e => hne e.symm)]
    exact hbk
  have d0 : w2.cell? ⟨b, 0, none⟩ = some (.pointer (some ⟨b, 0, none⟩)) := by rw [Lib.cell_of_heap hb2]; rfl
  have d1 : w2.cell? ⟨b, 1, none⟩ = some v := by rw [Lib.cell_of_heap hb2]; rfl
  have f1 : w2.frozen? ⟨b, 1, none⟩ = false := Lib.frozen_of_heap hb2 1
  obtain ⟨ao, n', cap, rfl⟩ : ∃ ao n' cap, v' = .slice ao n' cap := by
    rcases hown'.2 with ⟨hv, _⟩ | ⟨g, cap, cur, hv, _⟩
    · exact ⟨_, _, _, hv⟩
    · exact ⟨_, _, _, hv⟩
  go_wp2_with fail
  exact bodyPost_ret (v := .tuple #[.int .i64 s.size, .nilIface]) (by simp [results, Tryz.results16, go_sem]) rfl ⟨rfl, Lib.BuilderAt.put (T := 61) (e := 5) hB hb2 (bs' := bs ++ Lib.strCells s) (by simpa [Lib.strCells_length] using hown') (by decide), (hb1.grown hgrow (by have := hb1.size; omega) (fun k hk => (hown.lt k hk).1)).setCell (p := ⟨b, 1, none⟩) hB _⟩
end Go.Proofs.YtdkbfljhfhjofaaGreatDoor
namespace Go.Proofs.YtdkbfljhfhjofaaGreatDoor
open Go.RowKit
theorem oneC_fit {x : RuOne} (h : oneC argC x = 0) (h1 : ¬ (x.id < 1 ∨ 9999 < x.id ∨ (x.phase ≠ 1 ∧ x.phase ≠ 2))) : OneFit x := by
  have hok := oneC_ok h h1
  unfold oneC at h
  split at h
  · cases h
  · rename_i hl
    exact ⟨hok, by omega, by omega⟩
theorem goC_fit : ∀ (l done : List RuOne), goC argC done l = 0 → ∀ x ∈ l, OneFit x
  | [], _, _, x, hx => by cases hx
  | y :: r, done, h, x, hx => by
    unfold goC at h
    split at h
    · cases h
    rename_i h1
    split at h
    · cases h
    split at h
    · contradiction
    rename_i h2
    rcases List.mem_cons.1 hx with rfl | hx
    · exact oneC_fit (by simpa using h2) h1
    · exact goC_fit r _ h x hx
theorem checkR_fit {r : RuSet} (h : checkR argC r = 0) : (1 ≤ r.most ∧ r.most ≤ 1000000 ∧ 400 ≤ r.status ∧ r.status ≤ 599) ∧ (∀ x ∈ r.list, OneFit x) ∧ r.list.length ≤ 40 := by
  unfold checkR at h
  split at h
  · cases h
  rename_i h1
  split at h
  · cases h
  rename_i h3
  split at h
  · contradiction
  rename_i h2
  exact ⟨by omega, goC_fit _ _ (by simpa using h2), by omega⟩
theorem lineR_len {x : RuOne} (hf : OneFit x) (hs : RuSmall x) : (lineR x).length ≤ 40000000 := by
  have hok := hf.ok
  have hw : ∀ w ∈ wordsR x, w.length ≤ 4194312 := by
    intro w hw
    unfold wordsR at hw
    simp only [List.mem_cons, List.not_mem_nil, or_false] at hw
    rcases hw with rfl | rfl | rfl | rfl | rfl | rfl | rfl | rfl
    · cases x.chain <;> decide
    · have := dec1000 x.id.toNat (by have := hok.id2; omega); omega
    · have := dec1000 x.phase.toNat (by have := hok.ph2; omega); omega
    · have := ruJoin_len 44 40 (x.vars.map varL) (fun w hw => by obtain ⟨y, hy, rfl⟩ := List.mem_map.1 hw; exact varL_len (hok.vars y hy))
      rw [List.length_map] at this
      have := hf.vs; omega
    · have hk := checkP_ok.1 hok.pipe
      unfold printP
      by_cases hl : x.pipe = []
      · rw [if_pos hl]; decide
      · rw [if_neg hl]
        have := join_len 44 (x.pipe.map wordI) fun w hw => by
          obtain ⟨x, hx, rfl⟩ := List.mem_map.1 hw
          exact (word_ok (hk.2 x hx).1 (hk.2 x hx).2).2.2.2.2
        rw [List.length_map] at this
        omega
    · have := wordLen opWs 6 (by decide) x.op
      rw [List.length_append]
      cases x.no <;> simp <;> omega
    · have hqb : ∀ b : UInt8, (quoteB b).length ≤ 4 := fun b => by have := all_bytes (p := fun b => decide ((quoteB b).length ≤ 4)) (by decide +kernel) b; simpa using this
      have hsz : x.arg.data.toList.length = x.arg.size := by simp
      have hq4 : ∀ l : List UInt8, (l.flatMap quoteB).length ≤ l.length * 4 := fun l => by
        induction l with
        | nil => simp
        | cons b r ih => rw [List.flatMap_cons, List.length_append, List.length_cons]; have := hqb b; omega
      have := hs.arg
      have := hq4 x.arg.data.toList
      unfold quoteL
      split
      · simp
      · split
        · simp
        · omega
    · have := ruJoin_len 44 40 (x.acts.map actL) (fun w hw => by obtain ⟨y, hy, rfl⟩ := List.mem_map.1 hw; exact actL_len (hok.acts y hy))
      rw [List.length_map] at this
      have := hf.acs; omega
  have := ruJoin_len 32 4194312 (wordsR x) hw
  have e : (wordsR x).length = 8 := rfl
  unfold lineR
  omega
theorem ruBuilder_keep {T e : TypeId} {B b : Nat} {p : Value} {bs : List Value} {w w' : World} (h : Lib.BuilderAt T e B b p bs w) (hk : ∀ k, k < w.heap.size → w'.heap[k]? = w.heap[k]?) : Lib.BuilderAt T e B b p bs w' := by
  have hlt := h.lt
  obtain ⟨hB, v, hb, hown, hne⟩ := h
  refine ⟨hB, v, (hk b hlt).trans hb, ?_, hne⟩
  refine ⟨hown.1, ?_⟩
  rcases hown.2 with h1 | ⟨g, cap, cur, h1, h2, h3, h4, h5, h6, h7⟩
  · exact .inl h1
  · have hg := World.ownsRow.lt hown g (by rw [h1]; rfl)
    exact .inr ⟨g, cap, cur, h1, h2, (hk g hg.2).trans h3, h4, h5, h6, h7⟩
/-- A builder that holds these bytes, in blocks from its own on. -/
def Bu (g : Nat) (l : List UInt8) (w : World) : Prop := Lib.IsBuilder 61 5 g g (Lib.byteCells l) w
theorem Bu.lt {g : Nat} {l : List UInt8} {w : World} (h : Bu g l w) : g < w.heap.size := by
  unfold Bu at h
  exact h.elim (fun x => x.lt) (fun x => x.lt)
theorem Bu.below {g : Nat} {l : List UInt8} {w w' : World} (h : Bu g l w) (hb : Below w.heap.size w w') : Bu g l w' := by
  unfold Bu at h ⊢
  exact h.imp (fun x => ruBuilder_keep x fun k hk => hb.block k hk) (fun x => ruBuilder_keep x fun k hk => hb.block k hk)
theorem Bu.new (w : World) : Bu w.heap.size [] (w.alloc (.cells #[.pointer none, .slice none 0 0] 61)) := Lib.fresh_isBuilder 61 5 w
theorem buWrite (g : Nat) (l : List UInt8) (s : ByteArray) (w : World) (h : Bu g l w) (hl : l.length + s.size ≤ 140737488355328) :
    Calls Tryz.prog 16 #[.pointer (some ⟨g, 0, none⟩), .string s] w fun e w' => e = .returned (.tuple #[.int .i64 s.size, .nilIface]) ∧ Bu g (l ++ s.data.toList) w' ∧ Below g w w' :=
  (WriteString_any g g (Lib.byteCells l) s w h (by rw [Lib.byteCells_length]; exact hl) (Nat.le_of_lt h.lt)).mono fun e w' ⟨h1, h2, h3⟩ => ⟨h1, by
    rw [Lib.strCells_eq] at h2
    unfold Bu Lib.byteCells at *
    rw [List.map_append]
    exact .inr h2, h3⟩
theorem buString (g : Nat) (l : List UInt8) (w : World) (h : Bu g l w) : Calls Tryz.prog 19 #[.pointer (some ⟨g, 0, none⟩)] w fun e w' => e = .returned (.string (bs l)) ∧ Below g w w' :=
  Tryz.Builder_String_any g g l w h (Nat.le_of_lt h.lt)
def RuPrintPost (r : RuSet) (w : World) (e : Ending) (w' : World) : Prop :=
  e = .returned (.tuple #[.string (if checkR argC r = 0 then bs (printR r) else bs []), .int .i64 (checkR argC r)]) ∧ Below w.heap.size w w'
def RpRel (L : List RuOne) (h0 : List UInt8) (w W0 : World) (gb : Nat) (v : Value) (wr : World) : Prop :=
  ∃ k : Nat, k ≤ L.length ∧ v = .int .i64 k ∧ Bu gb (h0 ++ (L.take k).flatMap fun x => lineR x ++ [10]) wr ∧ Below (w.heap.size + 1) W0 wr ∧ (h0 ++ (L.take k).flatMap fun x => lineR x ++ [10]).length ≤ 100 + k * 40000001
set_option maxRecDepth 100000 in
set_option maxHeartbeats 3200000 in
theorem RuPrint_any (a : RuArg) (w : World) (h : RuLies w w.heap.size a) (hs : RuBulk a) (hlib : LibOk w) (htab : TabOk w) : Calls Tryz.prog 7 #[a.value] w (RuPrintPost a.set w) := by
  have HCH : Hid (∀ W, Below w.heap.size w W → Calls Tryz.prog 9 #[a.value] W (CodePost (checkR argC a.set) W)) := fun W hb => Check_any a W (h.keep hb hb.size) hs (hlib.below hb)
  have HB0 : Hid (∀ o, Below w.heap.size w (w.alloc o)) := fun o => (Below.refl _ _).alloc (Nat.le_refl _) _
  by_cases hc : checkR argC a.set = 0
  · obtain ⟨hm, hfit, h40⟩ := checkR_fit hc
    have hlist : a.set.list = a.l.map RuM.r := rfl
    have htext := fun (x : RuM) (hx : x ∈ a.l) W (hb : Below w.heap.size w W) => text_any x W ((h.all x hx).keep hb hb.size) (hfit x.r (by rw [hlist]; exact List.mem_map.2 ⟨x, hx, rfl⟩)) (hs.all x hx) (htab.below hb)
    have hline := fun (x : RuM) (hx : x ∈ a.l) => lineR_len (hfit x.r (by rw [hlist]; exact List.mem_map.2 ⟨x, hx, rfl⟩)) (hs.all x hx)
    have hat := fun W (hb : Below w.heap.size w W) k (hk : k < a.l.length) => ruR_at (h.sl.below hb) k hk
    have hi : ∀ (z : Int) W, Below w.heap.size w W → 0 ≤ z → z ≤ 1000000 → Calls Tryz.prog 17 #[.int .i64 z] W (StrPost (bs (decS z.toNat)) W) := fun z W hb h0 h1 => by
      have := itoa_any z.toNat W (by omega) (htab.below hb)
      rw [show ((z.toNat : Nat) : Int) = z by omega] at this
      exact this
    have hlen : (a.l.map RuM.r).length = a.l.length := List.length_map _
    have hget : ∀ k (hk : k < a.l.length), (a.l.map RuM.r).take (k + 1) = (a.l.map RuM.r).take k ++ [a.l[k].r] := fun k hk => by
      rw [List.take_succ_eq_append_getElem (by rw [hlen]; exact hk), List.getElem_map]
    have hdef : bs (printR a.set) = bs (headR a.set ++ 10 :: (a.l.map RuM.r).flatMap (fun x => lineR x ++ [10])) := rfl
    have hhead : headR a.set = scoreW ++ 32 :: (decS a.most.toNat ++ 32 :: decS a.status.toNat) := by
      unfold headR
      rw [Lib.join_cons]
      simp [Lib.joinTail, RuArg.set]
    rw [hlist, hlen] at h40
    dsimp only [RuArg.set] at hm
    unfold RuPrintPost
    rw [hc, if_pos rfl]
    rw [hc] at HCH
    generalize bs (printR a.set) = res at *
    generalize headR a.set = hd at *
    unfold RuArg.value at *
    clear hc hfit hlist h hs hlib htab
    obtain ⟨most, status, A, c, l⟩ := a
    dsimp only at *
    have z1 := dec1000 most.toNat (by omega)
    have z2 := dec1000 status.toNat (by omega)
    have HI1 := Lib.hid (fun W hb => hi most W hb (by omega) (by omega))
    have HI2 := Lib.hid (fun W hb => hi status W hb (by omega) (by omega))
    obtain ⟨T, hT⟩ : ∃ T, T = bs (hd ++ [10]) := ⟨_, rfl⟩
    have hTs : T.size ≤ 100 := by
      rw [hT, bs_size, hhead]
      simp only [List.length_append, List.length_cons, List.length_nil, scoreW]
      omega
    have hTe : T.data.toList = hd ++ [10] := by rw [hT]; rfl
    have e1 : (bs (decS most.toNat)).size ≤ 7 := z1
    have e2 : (bs (decS status.toNat)).size ≤ 7 := z2
    have hTT : ByteArray.mk #[115, 99, 111, 114, 101, 32] ++ bs (decS most.toNat) ++ ByteArray.mk #[32] ++ bs (decS status.toNat) ++ ByteArray.mk #[10] = T := by
      have q : ∀ x y : List UInt8, bs x ++ bs y = bs (x ++ y) := bs_append
      rw [hT, hhead]
      show bs [115, 99, 111, 114, 101, 32] ++ bs (decS most.toNat) ++ bs [32] ++ bs (decS status.toNat) ++ bs [10] = _
      rw [q, q, q, q]
      simp [scoreW]
    generalize bs (decS most.toNat) = E1 at *
    generalize bs (decS status.toNat) = E2 at *
    have y1 : ∀ W, (Op.stringOp .add (ByteArray.mk #[115, 99, 111, 114, 101, 32]) E1).run Tryz.prog W = .ok (.string (ByteArray.mk #[115, 99, 111, 114, 101, 32] ++ E1)) W := fun W => run_string_add_sum W _ E1 (by show 6 + E1.size ≤ _; omega)
    have y2 : ∀ W, (Op.stringOp .add (ByteArray.mk #[115, 99, 111, 114, 101, 32] ++ E1) (ByteArray.mk #[32])).run Tryz.prog W = .ok (.string (ByteArray.mk #[115, 99, 111, 114, 101, 32] ++ E1 ++ ByteArray.mk #[32])) W := fun W => run_string_add_sum W _ _ (by rw [ByteArray.size_append]; show 6 + E1.size + 1 ≤ _; omega)
    have y3 : ∀ W, (Op.stringOp .add (ByteArray.mk #[115, 99, 111, 114, 101, 32] ++ E1 ++ ByteArray.mk #[32]) E2).run Tryz.prog W = .ok (.string (ByteArray.mk #[115, 99, 111, 114, 101, 32] ++ E1 ++ ByteArray.mk #[32] ++ E2)) W := fun W => run_string_add_sum W _ _ (by rw [ByteArray.size_append, ByteArray.size_append]; show 6 + E1.size + 1 + E2.size ≤ _; omega)
    have y4 : ∀ W, (Op.stringOp .add (ByteArray.mk #[115, 99, 111, 114, 101, 32] ++ E1 ++ ByteArray.mk #[32] ++ E2) (ByteArray.mk #[10])).run Tryz.prog W = .ok (.string T) W := fun W => by
      rw [run_string_add_sum W _ _ (by rw [ByteArray.size_append, ByteArray.size_append, ByteArray.size_append]; show 6 + E1.size + 1 + E2.size + 1 ≤ _; omega), hTT]
    have HTX := Lib.hid htext
    have HLI := Lib.hid hline
    have HAT := Lib.hid hat
    have HD := Lib.hid hdef
    have HL := Lib.hid hlen
    have HG := Lib.hid hget
    have HTE := Lib.hid hTe
    obtain ⟨W0, hW0⟩ : ∃ W0, W0 = w.alloc (.cells #[.int .i64 most, .int .i64 status, .slice A l.length c] 24) := ⟨_, rfl⟩
    have HBX : Hid (∀ W, Below (w.heap.size + 1) W0 W → (W.cell? ⟨w.heap.size, 0, none⟩ = some (.int .i64 most) ∧ W.cell? ⟨w.heap.size, 1, none⟩ = some (.int .i64 status) ∧ W.cell? ⟨w.heap.size, 2, none⟩ = some (.slice A l.length c)) ∧ Below w.heap.size w W) := fun W hb => by
      subst hW0
      obtain ⟨a, b⟩ := box_facts hb
      exact ⟨⟨a 0, a 1, a 2⟩, b⟩
    have hz0 : w.heap.size + 1 ≤ W0.heap.size := by rw [hW0]; simp
    clear htext hline hat hdef hlen hget hTe hTT hT z1 z2 hi hhead
    go_enter Tryz.func7, Tryz.ntmps7
    go_wp2_with fail
    rw [← hW0]
    refine (HCH.out W0 (by rw [hW0]; exact HB0.out _)).mono ?_
    rintro e w1 ⟨rfl, hb1⟩
    have hB : Below (w.heap.size + 1) W0 w1 := hb1.mono hz0
    clear hb1 hW0 HCH
    have hz1 : w.heap.size + 1 ≤ w1.heap.size := Nat.le_trans hz0 hB.size
    obtain ⟨⟨x0, x1, x2⟩, hbw1⟩ := HBX.out w1 hB
    obtain ⟨W1, hW1⟩ : ∃ W1, W1 = w1.alloc (.cells #[.pointer none, .slice none 0 0] 61) := ⟨_, rfl⟩
    have hU : Bu w1.heap.size [] W1 := by rw [hW1]; exact Bu.new w1
    have hB : Below (w.heap.size + 1) W0 W1 := by rw [hW1]; exact hB.alloc hz1 _
    go_wp2_with fail
    rw [← hW1]
    clear hW1 x0 x1 x2 hbw1
    generalize w1.heap.size = gb at *
    have hst := (HBX.out _ hB).1
    have HWR : Hid (∀ W, Bu gb [] W → Calls Tryz.prog 16 #[.pointer (some ⟨gb, 0, none⟩), .string T] W fun e w' => e = .returned (.tuple #[.int .i64 T.size, .nilIface]) ∧ Bu gb ([] ++ T.data.toList) w' ∧ Below gb W w') := fun W hU => buWrite gb [] T W hU (by simp only [List.length_nil]; omega)
    obtain ⟨x0, x1, x2⟩ := hst
    go_region_held3 (fun w' => w'.cell? ⟨w.heap.size, 0, none⟩ = some (.int .i64 most) ∧ w'.cell? ⟨w.heap.size, 1, none⟩ = some (.int .i64 status))
      (first | exact ⟨x0, x1⟩ | exact ⟨(HBX.out _ hB).1.1, (HBX.out _ hB).1.2.1⟩ | go_keep | fail "keep")
      (first
        | (go_at_call 17; (first | (with_reducible refine (HI1.out _ ?_).mono ?_) | (with_reducible refine (HI2.out _ ?_).mono ?_)); (first | exact (HBX.out _ hB).2 | exact (HBX.out _ hB).2.drew); rintro e w2 ⟨rfl, hb2⟩; have hU : Bu gb [] w2 := (by first | exact hU.below hb2 | exact hU.below (undrew hb2)); have hB : Below (w.heap.size + 1) W0 w2 := (by first | exact hB.trans (hb2.mono (Nat.le_trans hz0 hB.size)) | exact hB.trans ((undrew hb2).mono (Nat.le_trans hz0 hB.size))); clear hb2)
        | (go_at_call 16; (with_reducible refine (HWR.out _ hU).mono ?_); rintro e w3 ⟨rfl, hU3, hb3⟩; have hB : Below (w.heap.size + 1) W0 w3 := hB.trans (hb3.mono hz1); clear hb3)
        | fail "arm")
    rw [List.nil_append, HTE.out] at hU3
    have hst3 := (HBX.out _ hB).1
    have HB3 := Lib.hid hB
    have HU3 := Lib.hid hU3
    clear y1 y2 y3 y4 hU3 hB HI1 HI2 HWR x0 x1 x2
    obtain ⟨x0, x1, x2⟩ := hst3
    go_wp2_with fail
    go_loopw [27] (fun v wr => RpRel (l.map RuM.r) (hd ++ [10]) w W0 gb v wr) (fun v _ => l.length - (intOf v).toNat)
    case atStart => exact ⟨0, Nat.zero_le _, rfl, by rw [List.take_zero, List.flatMap_nil, List.append_nil]; exact HU3.out, HB3.out, by rw [List.take_zero, List.flatMap_nil, List.append_nil]; have := hTs; rw [← HTE.out]; simp; omega⟩
    case round =>
      obtain ⟨k, hk, rfl, hU, hbr, hle⟩ := hrel
      rw [HL.out] at hk
      obtain ⟨-, hbw⟩ := HBX.out wr hbr
      have hzr : w.heap.size + 1 ≤ wr.heap.size := Nat.le_trans hz0 hbr.size
      have HBR := Lib.hid hbr
      have HU := Lib.hid hU
      by_cases hlt : k < l.length
      · obtain ⟨b, off, rfl, hbB, hcell⟩ := HAT.out wr hbw k hlt
        have htx := HTX.out l[k] (List.getElem_mem hlt)
        have hln := HLI.out l[k] (List.getElem_mem hlt)
        have HTK := Lib.hid (HG.out k hlt)
        have q0 := hcell 0 (by decide) _ rfl
        have q1 := hcell 1 (by decide) _ rfl
        have q2 := hcell 2 (by decide) _ rfl
        have q3 := hcell 3 (by decide) _ rfl
        have q4 := hcell 4 (by decide) _ rfl
        have q5 := hcell 5 (by decide) _ rfl
        have q6 := hcell 6 (by decide) _ rfl
        have q7 := hcell 7 (by decide) _ rfl
        have q8 := hcell 8 (by decide) _ rfl
        rw [Nat.add_zero] at q0
        generalize l[k] = X at *
        have HNX : Hid (∀ w3, Bu gb ((hd ++ [10] ++ ((l.map RuM.r).take k).flatMap fun x => lineR x ++ [10]) ++ (bs (lineR X.r) ++ ByteArray.mk #[10]).data.toList) w3 → Below (w.heap.size + 1) W0 w3 → RpRel (l.map RuM.r) (hd ++ [10]) w W0 gb (.int .i64 ((k : Int) + 1)) w3) := fun w3 h1 h2 => by
          have e : (bs (lineR X.r) ++ ByteArray.mk #[10]).data.toList = lineR X.r ++ [10] := by
            have := bs_append (lineR X.r) [10]
            exact congrArg (fun x : ByteArray => x.data.toList) this
          refine ⟨k + 1, by rw [HL.out]; omega, rfl, ?_, h2, ?_⟩
          · rw [HTK.out, List.flatMap_append, ← List.append_assoc, List.flatMap_singleton, ← e]; exact h1
          · have e3 : (lineR X.r ++ [10]).length = (lineR X.r).length + 1 := by rw [List.length_append]; rfl
            rw [HTK.out, List.flatMap_append, ← List.append_assoc, List.flatMap_singleton, List.length_append, e3]
            omega
        obtain ⟨⟨id, ph, vars, pipe, no, op, arg, acts, chain⟩, vA, vc, pA, pc, aA, ac⟩ := X
        unfold cellsRu at htx
        dsimp only at q0 q1 q2 q3 q4 q5 q6 q7 q8 htx hln HNX
        generalize lineR ⟨id, ph, vars, pipe, no, op, arg, acts, chain⟩ = ln at *
        generalize hacc : (hd ++ [10] ++ ((l.map RuM.r).take k).flatMap fun x => lineR x ++ [10]) = acc at *
        have hes : (bs ln).size ≤ 40000000 := hln
        generalize bs ln = E at *
        generalize vars.length = nv at *
        generalize pipe.length = np at *
        generalize acts.length = na at *
        have HTX1 := Lib.hid fun o => htx (wr.alloc o) (hbw.alloc hbw.size o)
        have y1 : ∀ W, (Op.stringOp .add E (ByteArray.mk #[10])).run Tryz.prog W = .ok (.string (E ++ ByteArray.mk #[10])) W := fun W => run_string_add_sum W E _ (by show E.size + 1 ≤ _; omega)
        have HWR : Hid (∀ W, Bu gb acc W → _) := fun W hU => buWrite gb acc (E ++ ByteArray.mk #[10]) W hU (by rw [ByteArray.size_append]; show acc.length + (E.size + 1) ≤ _; omega)
        clear hcell htx hbr hU hacc
        go_wp2_with fail
        refine (HTX1.out _).mono ?_
        rintro e w2 ⟨rfl, hb2⟩
        have hb2' := below_new hb2 (Nat.le_refl _)
        have hU2 := HU.out.below hb2'
        have hB2 := HBR.out.trans (hb2'.mono hzr)
        have HWR2 := Lib.hid (HWR.out w2 hU2)
        clear hb2 hb2' HWR
        go_wp2_with fail
        refine HWR2.out.mono ?_
        rintro e w3 ⟨rfl, hU3, hb3⟩
        have HNX3 := Lib.hid (HNX.out w3 hU3 (hB2.trans (hb3.mono hz1)))
        clear hU3 hb3 hB2 hU2
        go_wp2_with fail
        exact ⟨HNX3.out, by simp [intOf] <;> omega⟩
      · have hkl : l.length ≤ k := by omega
        have i1 : ¬ ((k : Int) < (l.length : Int)) := by omega
        rw [List.take_of_length_le (by rw [HL.out]; exact hkl)] at hU
        have HST := Lib.hid (buString gb _ wr hU)
        have HRES : Hid (bs (hd ++ [10] ++ (l.map RuM.r).flatMap fun x => lineR x ++ [10]) = res) := Lib.hid (by rw [HD.out, List.append_assoc]; rfl)
        rw [HRES.out] at HST
        clear hU hle hbr HU
        go_wp2_with fail
        refine HST.out.mono ?_
        rintro e w5 ⟨rfl, hb5⟩
        have hbw5 := hbw.trans (hb5.mono (Nat.le_of_succ_le hz1))
        go_wp2_with fail
        exact bodyPost_ret (v := .tuple #[.string res, .int .i64 0]) (by simp [results, Tryz.results7, go_sem]) rfl ⟨rfl, hbw5⟩
  · unfold RuPrintPost
    rw [if_neg hc]
    have qc : (checkR argC a.set == 0) = false := beq_eq_false_iff_ne.2 hc
    have HV : Hid (a.value = .agg #[.int .i64 a.most, .int .i64 a.status, .slice a.A a.l.length a.c]) := rfl
    unfold RuArg.value at HCH ⊢
    generalize checkR argC a.set = code at *
    clear hc h hs hlib htab
    go_enter Tryz.func7, Tryz.ntmps7
    go_wp2_with fail
    refine (HCH.out _ (HB0.out _)).mono ?_
    rintro e w1 ⟨rfl, hb1⟩
    go_wp2_with fail
    exact bodyPost_ret (v := .tuple #[.string (ByteArray.mk #[]), .int .i64 code]) (by simp [results, Tryz.results7, go_sem]) rfl ⟨rfl, (HB0.out _).trans (hb1.mono (by simp))⟩
end Go.Proofs.YtdkbfljhfhjofaaGreatDoor
namespace Go.Proofs.YtdkbfljhfhjofaaGreatDoor
open Go.RowKit Go.ChangeShapes Go.WideShapes Go.Deep
structure IArg where
  A : Option Addr
  c : Nat
  l : List Int
structure IntsArg (W : World) (v : Value) (a : IArg) : Prop where
  val : v = .slice a.A a.l.length a.c
  sl : Sl W W.heap.size 1 a.A a.l.length (a.l.map (Value.int .i64))
  room : a.l.length ≤ a.c
end Go.Proofs.YtdkbfljhfhjofaaGreatDoor
namespace Go.Proofs.YtdkbfljhfhjofaaGreatDoor
open Go.RowKit
theorem EqualI_yes (l : List Int) (A1 A2 : Option Addr) (c1 c2 : Nat) (w : World) (h1 : Sl w w.heap.size 1 A1 l.length (l.map (Value.int .i64))) (h2 : Sl w w.heap.size 1 A2 l.length (l.map (Value.int .i64))) (hl : l.length ≤ 4194304) :
    Calls Tryz.prog 30 #[.slice A1 l.length c1, .slice A2 l.length c2] w fun e w' => e = .returned (.bool true) ∧ Below w.heap.size w w' := by
  rcases Nat.eq_zero_or_pos l.length with h0 | hp
  · rw [h0]
    refine (Tryz.slices_Equal_int_empty A1 A2 c1 0 c2 w (by decide)).mono fun e w' ⟨e1, e2⟩ => ?_
    subst e2
    exact ⟨e1, Below.refl _ _⟩
  · obtain ⟨b, off, rfl, _, hc⟩ := h1.src (by rw [List.length_map]; exact hp)
    obtain ⟨b2, off2, rfl, _, hc2⟩ := h2.src (by rw [List.length_map]; exact hp)
    have key : ∀ (w : World) b off, (∀ j (h : j < (l.map (Value.int .i64)).length), w.cell? ⟨b, off + j, none⟩ = some (l.map (Value.int .i64))[j]) → ∀ j, j < l.length → w.cell? ⟨b, off + j, none⟩ = some (.int .i64 (l.getD j 0)) := fun w b off h j hj => by
      rw [h j (by rw [List.length_map]; exact hj), List.getElem_map, List.getD_eq_getElem?_getD, List.getElem?_eq_getElem hj]
      rfl
    refine (Tryz.slices_Equal_int b off l.length c1 b2 off2 l.length c2 l l w (Nat.le_refl _) (Nat.le_refl _) (by omega) (by omega) (key w b off hc) (key w b2 off2 hc2)).mono fun e w' ⟨e1, q, e2⟩ => ?_
    subst e2
    exact ⟨by rw [e1, beq_self_eq_true], below_drewN (Below.refl _ _) q⟩
end Go.Proofs.YtdkbfljhfhjofaaGreatDoor
