/- The walk of rex.closed, and of rex.ends at none or more. -/
import Derived.Test.YteinbjopclblaaaRexN4
namespace Go.Proofs.Yteinbjopclblaaa
open Go.RowKit

section
variable {ops : Array Oper} {rest : List Oper} {o : Oper} {a : Act} {Q : Exit → Act → World → Prop} {w : World}
theorem wpList_append_nilb (hgd : o.guard = none) (x : Operand) (ho : o.op = .call { callee := .builtin .append, args := #[.const (.slice none 0 0), x], argTypes := #[127, 127] })
    (bF gF cF n : Nat) (fr : List Bool) (hF : BL w bF gF cF n fr) (hx : a.eval x = .slice (some ⟨gF, 0, none⟩) n cF) (h0 : 0 < n) (hn : n ≤ 1048576)
    (h : ∀ g cap w', BL w' w.heap.size g cap n fr → Below w.heap.size w w' → w.heap.size < w'.heap.size → wpList Try.prog ops Q rest (a.put o.dst (.slice (some ⟨g, 0, none⟩) n cap)) w') :
    wpList Try.prog ops Q (o :: rest) a w := by
  obtain ⟨i0, hi, hz0, hz1, hz2⟩ := info_parts info_bool
  refine wpList_append_own w hgd (.const (.slice none 0 0)) x 127 ho w.heap.size 4 i0 (.bool false) 1 1 Try.underlying127 hi hz0 hz1 hz2 rfl (by decide) (.slice none 0 0) 0 [] rfl (World.ownsRow_nil w w.heap.size 4 1)
    ⟨gF, 0, none⟩ n cF (fr.map Value.bool) hx (by rw [List.length_map, hF.len, Nat.mul_one]) hF.copied (bools_one fr) (by unfold maxLen; omega) (by omega) (Nat.le_refl _) fun v' w' h1 h2 h3 => ?_
  rw [Nat.zero_add, List.nil_append] at h1
  have hb : Below w.heap.size w w' := below_none h2
  rcases h1.2 with ⟨_, he⟩ | ⟨g, cap, cur, hv, hg, hrest⟩
  · omega
  · subst hv
    have hB : BL w' w.heap.size g cap n fr := ⟨hF.len, h1⟩
    exact h g cap w' hB hb (by have := hB.lt; omega)
end

def isT : Option Value → Bool
  | some (.bool b) => b
  | _ => false
def cntF (w : World) (g n : Nat) : Nat := (List.range n).countP fun j => !isT (w.cell? ⟨g, j, none⟩)
def boolN : Value → Nat
  | .bool true => 1
  | _ => 0
theorem BL.count {w : World} {base g cap n : Nat} {o : List Bool} (h : BL w base g cap n o) : cntF w g n = falN o n := by
  unfold cntF falN
  refine List.countP_congr fun j hj => ?_
  rw [h.cell (List.mem_range.1 hj)]
  simp [isT]
def ClosedPost (s : List UInt8) (S : Set4) (a : Tree) (fr : List Bool) (n : Nat) (w : World) (e : Ending) (w' : World) : Prop := EndsPost s (.node 6 S [a]) fr n w e w'
def ClRel (g cap n : Nat) (s : List UInt8) (S : Set4) (a : Tree) (fr : List Bool) (W1 w : World) (m : Value) (wr : World) : Prop :=
  ∃ (b : Bool) (o : List Bool), m = .bool b ∧ BL wr (w.heap.size + 1) g cap n o ∧ Hid (StarI s S a fr o) ∧ Hid (b = false → EndsL s (.node 6 S [a]) fr o) ∧ Below (w.heap.size + 1) W1 wr ∧ Below w.heap.size w wr
def MgRel (g cap n : Nat) (o e : List Bool) (W1 W2 w : World) (m i : Value) (wr : World) : Prop :=
  ∃ (k : Nat) (o' : List Bool), k ≤ n ∧ i = .int .i64 k ∧ m = .bool (newB o e k) ∧ BL wr (w.heap.size + 1) g cap n o' ∧ Hid (MrgI o e k o') ∧ W2.grownBy wr (some g) ∧ Below (w.heap.size + 1) W1 wr ∧ Below w.heap.size w wr

set_option maxRecDepth 100000 in
set_option maxHeartbeats 1600000 in
theorem closed_any (S : Set4) (a : Tree) (ih : EndsC a) (s : ByteArray) (cs : List Value) (A : Option Addr) (c : Nat) (w : World) (hcs : cs = cellsX a.kind a.set A a.kids.length c) (hl : LT w w.heap.size a cs) (bF gF cF n : Nat) (fr : List Bool) (hs : s.size ≤ 300) (hn : n = s.size + 1) (hF : BL w bF gF cF n fr) :
    Calls Try.prog 107 #[argX a A c, .string s, .slice (some ⟨gF, 0, none⟩) n cF] w (EndsPost s.data.toList (.node 6 S [a]) fr n w) := by
  have hlen : s.data.toList.length = s.size := by simp
  have HA := Lib.hid (ih.call hl hcs hs hn)
  have HS0 : Hid (StarI s.data.toList S a fr fr) := star_start (by rw [hF.len, hlen, hn])
  have hn1 : n ≤ 301 := by omega
  have hn0 : 0 < n := by omega
  unfold argX at HA ⊢
  clear hn hlen hcs hl ih
  go_enter Try.func107, Try.ntmps107
  go_wp2_with (at_builtin; refine wpList_append_nilb rfl (.tmp 11) rfl bF gF cF n fr (by exact hF.alloc _) rfl hn0 (by omega) ?_; intro g cap w1 hO hb hz; obtain ⟨⟨f0, f1, f2, f3, f4, f5⟩, hbw⟩ := box_six hb; clear hb)
  have hbx : ∀ W, Below (w.heap.size + 1) w1 W → W.cell? ⟨w.heap.size, 0, none⟩ = some (.int .i64 a.kind) ∧ W.cell? ⟨w.heap.size, 1, none⟩ = some (.int .u64 a.set.a) ∧ W.cell? ⟨w.heap.size, 2, none⟩ = some (.int .u64 a.set.b) ∧ W.cell? ⟨w.heap.size, 3, none⟩ = some (.int .u64 a.set.c) ∧ W.cell? ⟨w.heap.size, 4, none⟩ = some (.int .u64 a.set.d) ∧ W.cell? ⟨w.heap.size, 5, none⟩ = some (.slice A a.kids.length c) := fun W h =>
    ⟨(h.cell (p := ⟨w.heap.size, 0, none⟩) (Nat.lt_succ_self _)).trans f0, (h.cell (p := ⟨w.heap.size, 1, none⟩) (Nat.lt_succ_self _)).trans f1, (h.cell (p := ⟨w.heap.size, 2, none⟩) (Nat.lt_succ_self _)).trans f2, (h.cell (p := ⟨w.heap.size, 3, none⟩) (Nat.lt_succ_self _)).trans f3, (h.cell (p := ⟨w.heap.size, 4, none⟩) (Nat.lt_succ_self _)).trans f4, (h.cell (p := ⟨w.heap.size, 5, none⟩) (Nat.lt_succ_self _)).trans f5⟩
  have HBX := Lib.hid hbx
  have hO1 : BL w1 (w.heap.size + 1) g cap n fr := hO.low (by simp)
  have hg1 : w.heap.size + 1 ≤ g := hO1.lt.1
  clear hbx f0 f1 f2 f3 f4 f5
  go_wp2_with fail
  go_loopw [8] (fun m wr => ClRel g cap n s.data.toList S a fr w1 w m wr) (fun m wr => 2 * cntF wr g n + boolN m)
  case atStart => exact ⟨true, fr, rfl, hO1, HS0, (fun e => by cases e), Below.refl _ _, hbw⟩
  case round =>
    obtain ⟨b, o, rfl, hB, HS, HE, hb1, hbr⟩ := hrel
    have hzr := hbr.size
    have hz1 : w.heap.size + 1 ≤ wr.heap.size := by have := hB.lt; omega
    cases b with
    | false =>
      have HE2 := Lib.hid (HE.out rfl)
      go_wp2_with fail
      go_ret
      exact ⟨g, cap, o, rfl, hB.low (by omega), HE2.out, hbr⟩
    | true =>
      obtain ⟨f0, f1, f2, f3, f4, f5⟩ := HBX.out wr hb1
      have hcall := HA.out wr _ g cap o hbr hB
      have hcnt : Hid (cntF wr g n = falN o n) := hB.count
      have HC := Lib.hid hcall
      clear hcall
      go_wp2_with fail
      refine HC.out.mono ?_
      rintro e w2 ⟨g2, c2, to, rfl, hB2, hE2, hb2⟩
      have hB22 := hB.below hb2
      have hgne : g2 ≠ g := by have h1 := hB2.lt.1; have h2 := hB.lt.2; omega
      have hol := Lib.hid hB.len
      have HE2 := Lib.hid hE2
      have hbr2 := hbr.trans (hb2.mono hzr)
      have hb12 := hb1.trans (hb2.mono hz1)
      clear f0 f1 f2 f3 f4 f5 hE2
      go_wp2_with fail
      obtain ⟨wo, rfl⟩ : ∃ wo : World, wo = wr := ⟨_, rfl⟩
      go_loopw [8, 19] (fun m i wr => MgRel g cap n o to w1 w2 w m i wr) (fun _ i _ => n - (intOf i).toNat)
      case atStart => exact ⟨0, o, Nat.zero_le _, rfl, rfl, hB22, mrg_start o to, World.grownBy.refl _ _, hb12, hbr2⟩
      case round =>
        obtain ⟨k, o', hk, rfl, rfl, hBk, HM, hg, hbk1, hbk⟩ := hrel
        by_cases hlt : k < n
        · have hko : k < o.length := by rw [hol.out]; exact hlt
          have c1 := (hB2.only hg hgne).cell hlt
          have c2' := hBk.cell hlt
          have c3 := hBk.free k
          rw [mrg_at HM.out hko] at c2'
          have HN := Lib.hid (new_step o to k)
          have HK := fun h => Lib.hid (mrg_keep HM.out hko h)
          have HT := fun h => Lib.hid (mrg_set HM.out hko h)
          have HK2 := Lib.hid HK
          have HT2 := Lib.hid HT
          clear HK HT
          generalize newB o to k = nb at *
          cases q1 : tt to k with
          | false =>
            rw [q1] at c1
            rw [q1, Bool.false_and, Bool.or_false] at HN
            have HK3 := HK2.out (by rw [q1]; rfl)
            clear q1 HK2 HT2 c2'
            go_wp2_with fail
            go_roundw
            case rel => exact ⟨k + 1, o', by omega, by go_num, by rw [HN.out], hBk, HK3, hg, hbk1, hbk⟩
            case measure => simp [intOf] <;> omega
          | true =>
            cases q2 : tt o k with
            | true =>
              rw [q1] at c1
              rw [q2] at c2'
              rw [q1, q2, show (true && !true) = false from rfl, Bool.or_false] at HN
              have HK3 := HK2.out (by rw [q1, q2]; rfl)
              clear q1 q2 HK2 HT2
              go_wp2_with fail
              go_roundw
              case rel => exact ⟨k + 1, o', by omega, by go_num, by rw [HN.out], hBk, HK3, hg, hbk1, hbk⟩
              case measure => simp [intOf] <;> omega
            | false =>
              rw [q1] at c1
              rw [q2] at c2'
              rw [q1, q2, show (true && !false) = true from rfl, Bool.or_true] at HN
              have HT3 := HT2.out q1
              clear q1 q2 HK2 HT2
              go_wp2_with fail
              go_roundw
              case rel => exact ⟨k + 1, _, by omega, by go_num, by rw [HN.out], hBk.set k true, HT3, only_setCell hg k _, hbk1.setCell hg1 _, hbk.setCell (Nat.le_of_succ_le hg1) _⟩
              case measure => simp [intOf] <;> omega
        · obtain rfl : k = n := by omega
          have HM2 : Hid (MrgI o to o.length o') := by unfold Hid; rw [hol.out]; exact HM.out
          have HS2 : Hid (StarI s.data.toList S a fr o') := star_step HS.out HE2.out HM2.out
          have HX : Hid (newB o to k = false → EndsL s.data.toList (.node 6 S [a]) fr o') := fun hq => by
            have hq2 : newB o to o.length = false := by rw [hol.out]; exact hq
            rw [mrg_same HM2.out hq2]
            exact star_end HS.out HE2.out hq2
          have HMs : Hid (2 * cntF wr g k + boolN (.bool (newB o to k)) < 2 * cntF wo g k + boolN (.bool true)) := by
            unfold Hid
            rw [hBk.count, hcnt.out]
            cases hq : newB o to k with
            | false =>
              have hq2 : newB o to o.length = false := by rw [hol.out]; exact hq
              rw [mrg_same HM2.out hq2]
              simp [boolN]
            | true =>
              have hq2 : newB o to o.length = true := by rw [hol.out]; exact hq
              have := mrg_more HM2.out hq2 k (by rw [hol.out]; exact Nat.le_refl _)
              simp [boolN]
              omega
          generalize newB o to k = nb at *
          go_wp2_with fail
          go_roundw
          case rel => exact ⟨nb, o', rfl, hBk, HS2, HX, hbk1, hbk⟩
          case measure => exact HMs.out

set_option maxRecDepth 100000 in
set_option maxHeartbeats 800000 in
theorem ends6 (S : Set4) (ta : Tree) (iha : EndsC ta) : EndsC (.node 6 S [ta]) := by
  intro s A c w bF gF cF n fr hs hn hwf hk hF
  obtain ⟨bb, off, ca, rfl, hbb, hca, hla⟩ := LK.one hk
  obtain ⟨A1, c1, rfl, _, _⟩ := hla.parts
  have HC : Hid (∀ W, Below w.heap.size w W → Calls Try.prog 107 #[argX ta A1 c1, .string s, .slice (some ⟨gF, 0, none⟩) n cF] W (EndsPost s.data.toList (.node 6 S [ta]) fr n W)) := fun W hb =>
    closed_any S ta iha s _ A1 c1 W rfl ((hla.below hb).more hb.size) bF gF cF n fr hs hn (hF.below hb)
  have ⟨x0, x1, x2, x3, x4, x5⟩ := hca.six
  have hn1 : n ≤ 301 := by omega
  unfold argX at HC
  obtain ⟨a, b, c', d⟩ := S
  dsimp only [Tree.kind, Tree.set, Tree.kids, List.length_nil, List.length_cons] at HC ⊢
  clear hn hk hwf iha hla hca
  go_enter Try.func87, Try.ntmps87
  go_wp2_with (at_make; refine wpList_make_b rfl _ _ rfl n (w.heap.size + 1) (by simp) rfl rfl (by omega) ?_; intro w1 hO hb hz; obtain ⟨⟨f0, f1, f2, f3, f4, f5⟩, hbw⟩ := box_six hb; have g0 := cell_kept hbw x0; have g1 := cell_kept hbw x1; have g2 := cell_kept hbw x2; have g3 := cell_kept hbw x3; have g4 := cell_kept hbw x4; have g5 := cell_kept hbw x5; clear hb)
  refine (HC.out _ hbw).mono ?_
  rintro e w2 ⟨g9, c9, to, rfl, hB9, hE9, hb9⟩
  have hz1 := hbw.size
  clear f0 f1 f2 f3 f4 f5 g0 g1 g2 g3 g4 g5 x0 x1 x2 x3 x4 x5
  go_wp2_with fail
  go_ret
  exact ⟨g9, c9, to, rfl, hB9.low hz1, hE9, hbw.trans (hb9.mono hz1)⟩
end Go.Proofs.Yteinbjopclblaaa
