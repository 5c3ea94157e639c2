/- The walk of args.Write. -/
import Derived.Test.YtedjidammcdkmaaDoorArgW
import Derived.Test.YtedjidammcdkmaaDoorUrlE
import Derived.Deep.RegionHeld3
import Derived.Laws.Concat
namespace Go.Proofs.YtedjidammcdkmaaDoor
open Go.RowKit

section
variable {ops : Array Oper} {o : Oper} {a : Act} {Q : Exit → Act → World → Prop} {w : World}
theorem step_append_s1 {K : Act → World → Prop} {E : Prop} (hgd : o.guard = none) (s x : Operand) (ho : o.op = .call { callee := .builtin .append, args := #[s, x], argTypes := #[31, 31] })
    (base : Nat) (v : Value) (l : List ByteArray) (hs : a.eval s = v) (hown : OwnS w base v l) (hbase : base ≤ w.heap.size)
    (vs : List Value) (new : ByteArray) (hv : vs = [Value.string new]) (g0 : Nat) (hg0 : w.heap.size = g0) (c : Nat) (hx : a.eval x = .slice (some ⟨g0, 0, none⟩) 1 c)
    (hbytes : l.length ≤ 1048576)
    (h : ∀ v' w', OwnS w' base v' (l ++ [new]) → Below base w w' → (∀ g, g < w.heap.size → v.ownBlock ≠ some g → w'.heap[g]? = w.heap[g]?) → w.heap.size < w'.heap.size → K (a.put o.dst v') w') :
    if Region.wanted o (yielded ops a.tmps) = true then Oper.wp Tryd.prog o a (w.alloc (.cells vs.toArray 9)) K Q else E := by
  have hw : Region.wanted o (yielded ops a.tmps) = true := by simp [Region.wanted, hgd]
  rw [if_pos hw]
  subst hv; subst hg0
  obtain ⟨i0, hi, hz0, hz1, hz2⟩ := info_parts info_str
  exact wp_append_kept s x 31 ho base 9 i0 (.string ByteArray.empty) 1 16 Tryd.underlying31 hi hz0 hz1 hz2 rfl (by decide) v l.length (l.map Value.string) hs hown hbase [Value.string new] 1 c hx rfl
    (fun u hu => by rw [List.mem_singleton.1 hu]; rfl) (by unfold maxLen; omega) (by omega) fun v' w' h1 h2 h3 h4 => h v' w' (by unfold OwnS; rw [List.length_append, List.map_append]; exact h1) h2 h3 h4
end
theorem cell_heap {w w' : World} {g : Nat} (h : w'.heap[g]? = w.heap[g]?) (i : Nat) : w'.cell? ⟨g, i, none⟩ = w.cell? ⟨g, i, none⟩ := by simp only [World.cell?, h]
def WrRel (l : List Pair) (w : World) (v i : Value) (wr : World) : Prop :=
  ∃ k : Nat, k ≤ l.length ∧ i = .int .i64 k ∧ OwnS wr w.heap.size v ((l.take k).map fun x => bs (pieceP x)) ∧ Below w.heap.size w wr
theorem bulk_mem {l : List Pair} : ∀ x ∈ l, x.1.size + x.2.size + 2 ≤ bulkA l := by
  induction l with
  | nil => intro x hx; cases hx
  | cons y l ih =>
    intro x hx
    have e : bulkA (y :: l) = (y.1.size + y.2.size + 2) + bulkA l := by unfold bulkA; rw [List.map_cons, List.sum_cons]
    rcases List.mem_cons.1 hx with h | h
    · subst h; omega
    · have := ih x h; omega

set_option maxRecDepth 100000 in
set_option maxHeartbeats 1600000 in
theorem Write_any (l : List Pair) (A : Option Addr) (c : Nat) (w : World) (h : Sl w w.heap.size 2 A l.length (l.flatMap cellsA)) (hb : bulkA l ≤ 1048576) (hl : l.length ≤ 1048576) :
    Calls Tryd.prog 4 #[.slice A l.length c] w (StrPost (bs (writeP l)) w) := by
  have HBK := Lib.hid (fun x hx => Nat.le_trans (bulk_mem (l := l) x hx) hb)
  have HWL : Hid ((writeP l).length ≤ 140737488355328) := by have := write_len l; unfold Hid; omega
  clear hb
  go_enter Tryd.func4, Tryd.ntmps4
  go_wp2_with fail
  go_loopw [3, 8] (fun v i wr => WrRel l w v i wr) (fun _ i _ => l.length - (intOf i).toNat)
  case atStart => exact ⟨0, Nat.zero_le _, rfl, OwnS.nil _ _, Below.refl _ _⟩
  case round =>
    obtain ⟨k, hk, rfl, hO, hb2⟩ := hrel
    by_cases hlt : k < l.length
    · have d1 : decide ((k : Int) < (l.length : Int)) = true := by simp; omega
      obtain ⟨b, off, rfl, hbB, x0, x1⟩ := arg_at (h.below hb2) k hlt
      have hsz := HBK.out l[k] (List.getElem_mem hlt)
      have HST : Hid ((l.take (k + 1)).map (fun x => bs (pieceP x)) = (l.take k).map (fun x => bs (pieceP x)) ++ [bs (pieceP l[k])]) := by
        unfold Hid
        rw [List.take_succ_eq_append_getElem hlt, List.map_append]
        rfl
      have HPE : Hid (bs (pieceP l[k]) = bs (urlEncL l[k].1.data.toList) ++ ByteArray.mk #[61] ++ bs (urlEncL l[k].2.data.toList)) := by
        unfold Hid pieceP
        apply ByteArray.ext
        simp [bs]
      generalize l[k] = X at *
      obtain ⟨n1, n2⟩ := X
      dsimp only at x0 x1 hsz HPE
      have z1 : (bs (urlEncL n1.data.toList)).size ≤ 3145728 := by
        rw [bs_size]
        have := urlEnc_len n1.data.toList
        have e : n1.data.toList.length = n1.size := by simp
        omega
      have z2 : (bs (urlEncL n2.data.toList)).size ≤ 3145728 := by
        rw [bs_size]
        have := urlEnc_len n2.data.toList
        have e : n2.data.toList.length = n2.size := by simp
        omega
      have HE1 : Hid (∀ W, Calls Tryd.prog 7 #[.string n1] W (StrPost (bs (urlEncL n1.data.toList)) W)) := fun W => UrlEncode_any n1 W (by omega)
      have HE2 : Hid (∀ W, Calls Tryd.prog 7 #[.string n2] W (StrPost (bs (urlEncL n2.data.toList)) W)) := fun W => UrlEncode_any n2 W (by omega)
      generalize bs (urlEncL n1.data.toList) = E1 at *
      generalize bs (urlEncL n2.data.toList) = E2 at *
      have i7 : IntKind.i64.wrap ((k : Int) + 1) = (k : Int) + 1 := IntWalk.i64_in _ (by omega)
      have hz := hb2.size
      have hll : ((l.take k).map fun x => bs (pieceP x)).length ≤ 1048576 := by rw [List.length_map, List.length_take]; omega
      generalize (l.take k).map (fun x => bs (pieceP x)) = acc at hO HST hll
      obtain ⟨Ao, co, rfl, _⟩ := hO.form
      have HO := Lib.hid hO
      have HB2 := Lib.hid hb2
      clear hO hb2 hsz
      go_wp2_with fail
      have hN := heap_alloc_new wr (.cells #[.string n1, .string n2] 25)
      have hBW : Below wr.heap.size wr (wr.alloc (.cells #[.string n1, .string n2] 25)) := (Below.refl _ _).alloc (Nat.le_refl _) _
      have hzW : wr.heap.size < (wr.alloc (.cells #[.string n1, .string n2] 25)).heap.size := by simp
      generalize wr.alloc (.cells #[.string n1, .string n2] 25) = W0 at *
      have g0 := cell_of_row _ wr.heap.size 0 _ _ _ hN
      have g1 := cell_of_row _ wr.heap.size 1 _ _ _ hN
      simp only [List.getElem?_toArray, List.getElem?_cons_zero, List.getElem?_cons_succ] at g0 g1
      have HS : Hid (∀ W, Below W0.heap.size W0 W → W.cell? ⟨wr.heap.size, 0, none⟩ = some (.string n1) ∧ W.cell? ⟨wr.heap.size, 1, none⟩ = some (.string n2)) := fun W hb => ⟨cell_kept hb g0, cell_kept hb g1⟩
      have HBW := Lib.hid hBW
      have y1 : ∀ W, (Op.stringOp .add E1 (ByteArray.mk #[61])).run Tryd.prog W = .ok (.string (E1 ++ ByteArray.mk #[61])) W := fun W => run_string_add_sum W E1 _ (by show E1.size + 1 ≤ _; omega)
      have y2 : ∀ W, (Op.stringOp .add (E1 ++ ByteArray.mk #[61]) E2).run Tryd.prog W = .ok (.string (E1 ++ ByteArray.mk #[61] ++ E2)) W := fun W => run_string_add_sum W _ E2 (by rw [ByteArray.size_append]; show E1.size + 1 + E2.size ≤ _; omega)
      have HFAR : Hid ((Value.slice Ao acc.length co).ownBlock ≠ some wr.heap.size) := fun e => by have := (HO.out.lt _ e).2; omega
      clear hN hBW x0 x1
      go_region_held3 (fun w' => w'.cell? ⟨wr.heap.size, 0, none⟩ = some (.string n1) ∧ w'.cell? ⟨wr.heap.size, 1, none⟩ = some (.string n2))
        (first | exact hS5 | exact HS.out _ (hbb9.alloc hbb9.size _) | exact HS.out _ hbb9 | exact HS.out _ hbb8 | go_keep)
        (first
          | (go_at_call 7; (with_reducible refine (HE1.out _).mono ?_); rintro e w8 ⟨rfl, hb8⟩; have hbb8 : Below W0.heap.size W0 w8 := undrew hb8)
          | (go_at_call 7; (with_reducible refine (HE2.out _).mono ?_); rintro e w9 ⟨rfl, hb9⟩; have hbb9 : Below W0.heap.size W0 w9 := hbb8.trans (hb9.mono hbb8.size); have hbr9 : Below wr.heap.size wr w9 := HBW.out.trans (hbb9.mono (Nat.le_of_lt hzW)); have hO9 := HO.out.below hbr9; have hz9 : w.heap.size ≤ w9.heap.size := Nat.le_trans hz hbr9.size)
          | (refine step_append_s1 rfl (.tmp 12) (.tmp 21) rfl w.heap.size (.slice Ao acc.length co) acc rfl (by exact hO9) (by exact hz9) _ (E1 ++ ByteArray.mk #[61] ++ E2) rfl w9.heap.size rfl 1 rfl hll ?_; intro v5 w5 hO5 hb5 hk5 hz5; have hh5 := hk5 wr.heap.size (Nat.lt_of_lt_of_le hzW hbb9.size) HFAR.out; have hS5 : w5.cell? ⟨wr.heap.size, 0, none⟩ = some (.string n1) ∧ w5.cell? ⟨wr.heap.size, 1, none⟩ = some (.string n2) := ⟨(cell_heap hh5 0).trans (HS.out _ hbb9).1, (cell_heap hh5 1).trans (HS.out _ hbb9).2⟩))
      have hb25 : Below w.heap.size w w5 := HB2.out.trans ((hbr9.mono hz).trans hb5)
      clear HS HE1 HE2 hO9 hb8 hb9 hbb8 hbb9 hS5 hh5 hk5 g0 g1 y1 y2 hb5 hbr9
      go_wp2_with fail
      exact ⟨⟨k + 1, by omega, rfl, by rw [HST.out, HPE.out]; exact hO5, hb25⟩, by dsimp only [intOf]; omega⟩
    · obtain rfl : k = l.length := by omega
      have d1 : decide ((l.length : Int) < (l.length : Int)) = false := by simp
      rw [List.take_length] at hO
      have hsl : (l.map fun x => bs (pieceP x)).length = l.length := by rw [List.length_map]
      have hxs : (l.map fun x => bs (pieceP x)).map (·.data.toList) = l.map pieceP := by rw [List.map_map]; rfl
      rcases Nat.eq_zero_or_pos l.length with h0 | hpos
      · have hnil : l = [] := List.eq_nil_of_length_eq_zero h0
        subst hnil
        obtain ⟨Ao, co, rfl, _⟩ := hO.form
        have HJ := Lib.hid (Tryd.strings_Join_none Ao co ⟨#[38]⟩ wr)
        dsimp only [List.length_nil, List.map_nil] at *
        clear hO hxs hsl
        go_wp2_with fail
        refine HJ.out.mono ?_
        rintro e w5 ⟨rfl, rfl⟩
        go_wp2_with fail
        go_ret
        exact ⟨rfl, hb2⟩
      · obtain ⟨Ao, co, rfl, hSo⟩ := hO.form
        obtain ⟨bo, oo, rfl, hbo, hco⟩ := hSo.src (by rw [List.length_map, List.length_map]; exact hpos)
        have hcap : (l.map fun x => bs (pieceP x)).length ≤ co := by
          rcases hO.2 with ⟨e, _⟩ | ⟨_, _, _, e, _, _, h9, _⟩
          · cases e
          · injection e with _ _ e; rw [e]; exact h9
        have hj := Tryd.strings_Join bo oo co (l.map fun x => bs (pieceP x)) ⟨#[38]⟩ wr (fun j x hx => by
          have hjl : j < ((l.map fun x => bs (pieceP x)).map Value.string).length := by rw [List.length_map]; exact (List.getElem?_eq_some_iff.1 hx).1
          rw [hco j hjl, List.getElem_map]
          obtain ⟨h9, h10⟩ := List.getElem?_eq_some_iff.1 hx
          rw [h10]) hbo (by rw [hsl]; omega) hcap (by rw [hxs]; exact HWL.out)
        rw [hxs, hsl] at hj
        have HJN := Lib.hid hj
        rw [hsl]
        clear hj hO hSo hco hxs
        go_wp2_with fail
        refine HJN.out.mono ?_
        rintro e w5 ⟨rfl, hb5⟩
        go_wp2_with fail
        go_ret
        exact ⟨rfl, hb2.trans (hb5.mono hb2.size)⟩
end Go.Proofs.YtedjidammcdkmaaDoor
