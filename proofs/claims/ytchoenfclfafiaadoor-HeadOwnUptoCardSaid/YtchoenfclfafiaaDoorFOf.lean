/- The walk of frame.Of. -/
import Derived.Test.YtchoenfclfafiaaDoorGet
import Derived.Test.YtchoenfclfafiaaDoorSlC
import Derived.Test.YtchoenfclfafiaaDoorCFS
import Derived.Test.YtchoenfclfafiaaDoorOctA
import Derived.Deep.RegionHeld3
import Derived.Deep.DrawnRows
import Derived.Deep.DeepCutAuto
namespace Go.Proofs.YtchoenfclfafiaaDoor
open Go.RowKit

def clen : ByteArray := ByteArray.mk #[99, 111, 110, 116, 101, 110, 116, 45, 108, 101, 110, 103, 116, 104]
def tenc : ByteArray := ByteArray.mk #[116, 114, 97, 110, 115, 102, 101, 114, 45, 101, 110, 99, 111, 100, 105, 110, 103]
def chkd : List UInt8 := [99, 104, 117, 110, 107, 101, 100]
/-- The kind of body, its size, what went wrong. -/
def ofL : List ByteArray → List ByteArray → Int × Int × Int
  | [], [] => (1, 0, 0)
  | [], [c] => if (lowerL c.data.toList == chkd) = true then (3, 0, 0) else (0, 0, 4)
  | [], _ :: _ :: _ => (0, 0, 4)
  | _ :: _, _ :: _ => (0, 0, 4)
  | s :: S, [] => match numL 10 9 s.data.toList with
    | none => (0, 0, 4)
    | some n => if (s :: S).any (fun y => !(y.toList == s.toList)) = true then (0, 0, 4) else (2, n, 0)
theorem of_one (c : ByteArray) : ofL [] [c] = if (lowerL c.data.toList == chkd) = true then (3, 0, 0) else (0, 0, 4) := rfl
theorem of_len (s : ByteArray) (S : List ByteArray) : ofL (s :: S) [] = match numL 10 9 s.data.toList with
    | none => (0, 0, 4)
    | some n => if (s :: S).any (fun y => !(y.toList == s.toList)) = true then (0, 0, 4) else (2, n, 0) := rfl
def ofV (r : Int × Int × Int) : Value := .tuple #[.agg #[.int .i64 r.1, .int .i64 r.2.1], .int .i64 r.2.2]
def OfPost (r : Int × Int × Int) (w : World) (e : Ending) (w' : World) : Prop := e = .returned (ofV r) ∧ Below w.heap.size w w'

theorem OfCl_any (x : ByteArray) (g : Nat) (A : Option Addr) (c n : Nat) (S : List ByteArray) (w : World) (B : Nat) (h0 : w.cell? ⟨g, 0, none⟩ = some (.slice A n c)) (hs : Sl w B 1 A n (S.map Value.string)) (hn : 0 < n) (s0 : ByteArray) (h1 : S[0]? = some s0) :
    Calls Tryd.prog 45 #[.string x, .pointer (some ⟨g, 0, none⟩)] w (BoolPost (!(x.toList == s0.toList)) w) := by
  obtain ⟨b, off, rfl, hz, hc⟩ := hs.cells hn
  have hc0 := hc 0 (by omega)
  rw [List.getD_eq_getElem?_getD, h1, Nat.add_zero] at hc0
  go_enter Tryd.func45, Tryd.ntmps45
  go_wp2_with fail
  go_ret
  exact ⟨rfl, Below.refl _ _⟩

def OfCut (W0 : World) (B : Nat) (S C : List ByteArray) (s4 s5 : Value) (wx : World) : Prop :=
  ∃ (g : Nat) (A1 A2 : Option Addr) (c1 c2 : Nat), s4 = .pointer (some ⟨g, 0, none⟩) ∧ wx.cell? ⟨g, 0, none⟩ = some (.slice A1 S.length c1) ∧ s5 = .slice A2 C.length c2 ∧
    Sl wx wx.heap.size 1 A1 S.length (S.map Value.string) ∧ Sl wx wx.heap.size 1 A2 C.length (C.map Value.string) ∧ Below B W0 wx

set_option maxRecDepth 100000 in
set_option maxHeartbeats 1600000 in
theorem Of_any (m t : ByteArray) (A : Option Addr) (n c : Nat) (fs : List (ByteArray × ByteArray)) (w : World) (hn : n = fs.length) (hf : Sl w w.heap.size 2 A n (cellsF fs))
    (hs : ∀ f ∈ fs, f.1.size ≤ maxLen) (hv : ∀ f ∈ fs, f.2.size ≤ maxLen) (hl : fs.length ≤ 4398046511104) :
    Calls Tryd.prog 22 #[.agg #[.string m, .string t, .slice A n c]] w (OfPost (ofL (getL fs clen) (getL fs tenc)) w) := by
  subst hn
  obtain ⟨W2, hW2⟩ : ∃ W2, (w.alloc (.cells #[.string m, .string t, .slice A fs.length c] 29)).alloc (.cells #[.int .i64 0, .int .i64 0] 61) = W2 := ⟨_, rfl⟩
  have hz2 : W2.heap.size = w.heap.size + 2 := by rw [← hW2]; simp
  have hb2 : Below (w.alloc (.cells #[.string m, .string t, .slice A fs.length c] 29)).heap.size (w.alloc (.cells #[.string m, .string t, .slice A fs.length c] 29)) W2 := by rw [← hW2]; exact (Below.refl _ _).alloc (Nat.le_refl _) _
  have b0 : W2.cell? ⟨w.heap.size, 0, none⟩ = some (.string m) := new_cell hb2 0
  have b1 : W2.cell? ⟨w.heap.size, 1, none⟩ = some (.string t) := new_cell hb2 1
  have b2 : W2.cell? ⟨w.heap.size, 2, none⟩ = some (.slice A fs.length c) := new_cell hb2 2
  have hbw := below_new hb2 (Nat.le_refl _)
  have hf2 : Sl W2 w.heap.size 2 A fs.length (cellsF fs) := hf.below hbw
  have hblk : W2.heap[w.heap.size + 1]? = some (.cells #[.int .i64 0, .int .i64 0] 61 (0, 0)) := by
    rw [← hW2]
    have := heap_alloc_new (w.alloc (.cells #[.string m, .string t, .slice A fs.length c] 29)) (.cells #[.int .i64 0, .int .i64 0] 61)
    simpa using this
  have hres : ∀ wx, Below (w.heap.size + 2) W2 wx → (wx.cell? ⟨w.heap.size + 1, 0, none⟩ = some (.int .i64 0) ∧ wx.cell? ⟨w.heap.size + 1, 1, none⟩ = some (.int .i64 0) ∧ wx.frozen? ⟨w.heap.size + 1, 0, none⟩ = false ∧ wx.frozen? ⟨w.heap.size + 1, 1, none⟩ = false) ∧ Below w.heap.size w wx := fun wx hb => by
    have hx := (hb.block (w.heap.size + 1) (by omega)).trans hblk
    exact ⟨⟨cell_of_row wx _ 0 _ _ _ hx, cell_of_row wx _ 1 _ _ _ hx, by simp [World.frozen?, hx], by simp [World.frozen?, hx]⟩, hbw.trans (hb.mono (by omega))⟩
  have HW2 := Lib.hid hW2
  have HRES := Lib.hid hres
  have HS := Lib.hid hs
  have hz3 : w.heap.size + 2 ≤ W2.heap.size := by omega
  clear hz2
  have hz2 := hz3
  clear hz3
  have tok1 : True := trivial
  clear hW2 hres hb2 hblk hf hs
  go_enter Tryd.func22, Tryd.ntmps22
  go_upto_region 1 with fail
  rw [HW2.out]
  go_cut [4, 5] (fun s4 s5 wx => OfCut W2 (w.heap.size + 2) (getL fs clen) (getL fs tenc) s4 s5 wx)
  case first =>
    go_region_held3 (fun w' => w'.cell? ⟨w.heap.size, 0, none⟩ = some (.string m) ∧ w'.cell? ⟨w.heap.size, 1, none⟩ = some (.string t) ∧ w'.cell? ⟨w.heap.size, 2, none⟩ = some (.slice A fs.length c))
      (first | go_keep | (refine ⟨cell_kept (W := W2) ?_ b0, cell_kept (W := W2) ?_ b1, cell_kept (W := W2) ?_ b2⟩ <;> (first | exact hB9 | exact hB9.setCell (p := ⟨W2.heap.size, 0, none⟩) (Nat.le_refl _) _ | exact hB9.setCell (p := ⟨w8.heap.size, 0, none⟩) hB8.size _ | exact hB8.setCell (p := ⟨W2.heap.size, 0, none⟩) (Nat.le_refl _) _ | exact hB9.alloc hB9.size _ | exact (hB9.alloc hB9.size _).setCell (by first | exact hB9.size | (simp; omega)) _ | exact hB8 | exact hB8.alloc hB8.size _ | exact (hB8.alloc hB8.size _).setCell hB8.size _ | exact (Below.refl W2.heap.size W2).drew | exact (Below.refl W2.heap.size W2).drew.alloc (Nat.le_refl _) _ | exact ((Below.refl W2.heap.size W2).alloc (Nat.le_refl _) _).drew | exact ((Below.refl W2.heap.size W2).alloc (Nat.le_refl _) _))))
      (first | (go_at_call 41; first | (have t1 := tok1; clear tok1; refine (Get_any _ _ _ _ _ fs _ _ rfl (by exact (hf2.below (Below.mono (by first | exact (Below.refl W2.heap.size W2).drew | exact (Below.refl W2.heap.size W2).drew.alloc (Nat.le_refl _) _ | exact ((Below.refl W2.heap.size W2).alloc (Nat.le_refl _) _).drew | exact ((Below.refl W2.heap.size W2).alloc (Nat.le_refl _) _)) (show w.heap.size ≤ W2.heap.size by omega))).more (by first | exact (show w.heap.size ≤ W2.heap.size by omega) | (simp; omega))) HS.out (by decide) hl).mono ?_; rintro e w8 ⟨v8, rfl, hown8, hb8⟩; have hB8 : Below W2.heap.size W2 w8 := Below.trans (by first | exact (Below.refl W2.heap.size W2).drew | exact (Below.refl W2.heap.size W2).drew.alloc (Nat.le_refl _) _ | exact ((Below.refl W2.heap.size W2).alloc (Nat.le_refl _) _).drew | exact ((Below.refl W2.heap.size W2).alloc (Nat.le_refl _) _)) (hb8.mono (by first | exact Nat.le_refl _ | simp)); (first | (have q8 : w8.cell? ⟨W2.heap.size, 0, none⟩ = some (.slice none 0 0) := new_cell hb8 0; have r8 : w8.frozen? ⟨W2.heap.size, 0, none⟩ = false := new_free hb8 0) | (have q8 : w8.cell? ⟨W2.heap.size, 0, none⟩ = some (.slice none 0 0) := new_cell (undrew hb8) 0; have r8 : w8.frozen? ⟨W2.heap.size, 0, none⟩ = false := new_free (undrew hb8) 0) | skip); obtain ⟨A8, c8, rfl, hsl8⟩ := hown8.form) | (refine (Get_any _ _ _ _ _ fs _ _ rfl (by exact (hf2.below (Below.mono (by first | exact hB8 | exact hB8.drew | exact hB8.alloc hB8.size _ | exact (hB8.alloc hB8.size _).drew) (show w.heap.size ≤ W2.heap.size by omega))).more (by first | exact Nat.le_trans (show w.heap.size ≤ W2.heap.size by omega) hB8.size | (have := hB8.size; simp; omega))) HS.out (by decide) hl).mono ?_; rintro e w9 ⟨v9, rfl, hown9, hb9⟩; have hB9 : Below W2.heap.size W2 w9 := Below.trans (by first | exact hB8 | exact hB8.drew | exact hB8.alloc hB8.size _ | exact (hB8.alloc hB8.size _).drew) (hb9.mono (by first | exact hB8.size | (have := hB8.size; simp; omega))); (first | (have q9 : w9.cell? ⟨W2.heap.size, 0, none⟩ = some (.slice none 0 0) := cell_kept hb9 q8; have r9 : w9.frozen? ⟨W2.heap.size, 0, none⟩ = false := free_kept hb9 q8 r8) | (have q9 : w9.cell? ⟨w8.heap.size, 0, none⟩ = some (.slice none 0 0) := new_cell hb9 0; have r9 : w9.frozen? ⟨w8.heap.size, 0, none⟩ = false := new_free hb9 0) | (have q9 : w9.cell? ⟨w8.heap.size, 0, none⟩ = some (.slice A8 _ c8) := new_cell hb9 0) | (have q9 : w9.cell? ⟨W2.heap.size, 0, none⟩ = some (.slice A8 _ c8) := cell_kept hb9 (by simp [q8, r8, go_sem])) | skip); obtain ⟨A9, c9, rfl, hsl9⟩ := hown9.form)))
    all_goals (go_wp2_with fail; go_meet)
    case rel =>
      exact ⟨_, _, _, _, _, rfl, new_cell (Below.refl _ _) 0, rfl, (((hsl8.below hb9).more hb9.size).alloc (Nat.le_refl _) _).more (by simp), (hsl9.alloc (Nat.le_refl _) _).more (by simp), (hB9.mono hz2).alloc (Nat.le_trans hz2 hB9.size) _⟩
    case rel =>
      have o8 := (hown8.below (below_new hb9 (Nat.le_refl _))).far (g := w8.heap.size) (fun k hk e => by have := (hown8.lt k hk).2; omega) 0 (.slice A8 (getL fs clen).length c8)
      have o9 := hown9.far (g := w8.heap.size) (fun k hk e => by have := (hown9.lt k hk).1; simp at this; omega) 0 (.slice A8 (getL fs clen).length c8)
      exact ⟨_, _, _, _, _, rfl, World.cell?_setCell_same _ _ _ q9, rfl, o8.sl, o9.sl, (hB9.mono hz2).setCell (p := ⟨w8.heap.size, 0, none⟩) (Nat.le_trans hz2 hB8.size) _⟩
    case rel =>
      have o8 := (hown8.below hb9).far (g := W2.heap.size) (fun k hk e => by have := (hown8.lt k hk).1; simp at this; omega) 0 (.slice A8 (getL fs clen).length c8)
      have o9 := hown9.far (g := W2.heap.size) (fun k hk e => by have := (hown9.lt k hk).1; have := (undrew hb8).size; simp at this; omega) 0 (.slice A8 (getL fs clen).length c8)
      exact ⟨_, _, _, _, _, rfl, World.cell?_setCell_same _ _ _ q9, rfl, o8.sl, o9.sl, (hB9.mono hz2).setCell (p := ⟨W2.heap.size, 0, none⟩) hz2 _⟩
  case rest =>
    obtain ⟨g, A1, A2, c1, c2, rfl, h4, rfl, hs1, hs2, hb⟩ := hcut
    have ⟨⟨r0, r1, r2, r3⟩, hbw2⟩ := HRES.out wc hb
    have hS : ∀ x ∈ getL fs clen, x.size ≤ maxLen := getL_sizes hv
    have hC : ∀ x ∈ getL fs tenc, x.size ≤ maxLen := getL_sizes hv
    have hSl : (getL fs clen).length ≤ 4398046511104 := Nat.le_trans (getL_len' fs clen) hl
    have hCl : (getL fs tenc).length ≤ 4398046511104 := Nat.le_trans (getL_len' fs tenc) hl
    generalize getL fs clen = S at *
    generalize getL fs tenc = C at *
    clear HRES HW2 hv HS
    match S, C, hS, hC with
    | [], [], _, _ =>
      go_wp2_with fail
      have t := two_set (.int .i64 1) (.int .i64 0) r0 r1
      exact bodyPost_ret (v := .tuple #[.agg #[.int .i64 1, .int .i64 0], .int .i64 0]) (by simp [results, Tryd.results22, go_sem, t.1, t.2]) rfl ⟨rfl, (hbw2.setCell (p := ⟨w.heap.size + 1, 0, none⟩) (by simp) _).setCell (p := ⟨w.heap.size + 1, 1, none⟩) (by simp) _⟩
    | [], [c], _, hC =>
      have hc := hC c (by simp)
      obtain ⟨b, off, rfl, _, hc2⟩ := hs2.cells (by simp)
      have hc0 : wc.cell? ⟨b, off, none⟩ = some (.string c) := hc2 0 (by simp)
      clear hc2 hC
      go_wp2_with fail
      refine (Lower_any _ _ hc).mono ?_
      rintro e w1 ⟨rfl, hb1⟩
      have q0 := cell_kept hb1 r0
      have q1 := cell_kept hb1 r1
      have q2 := free_kept hb1 r0 r2
      have q3 := free_kept hb1 r1 r3
      have hbw3 := hbw2.trans (hb1.mono hbw2.size)
      clear r0 r1 r2 r3
      go_wp2_with fail
      · have h1 : (!lowerL c.data.toList == chkd) = true := by assumption
        have t := two_set (.int .i64 0) (.int .i64 0) q0 q1
        exact bodyPost_ret (v := .tuple #[.agg #[.int .i64 0, .int .i64 0], .int .i64 4]) (by simp [results, Tryd.results22, go_sem, t.1, t.2]) rfl ⟨by rw [of_one, if_neg (by simpa using h1)]; rfl, (hbw3.setCell (p := ⟨w.heap.size + 1, 0, none⟩) (by simp) _).setCell (p := ⟨w.heap.size + 1, 1, none⟩) (by simp) _⟩
      · have h1 : (!lowerL c.data.toList == chkd) = false := by assumption
        have t := two_set (.int .i64 3) (.int .i64 0) q0 q1
        exact bodyPost_ret (v := .tuple #[.agg #[.int .i64 3, .int .i64 0], .int .i64 0]) (by simp [results, Tryd.results22, go_sem, t.1, t.2]) rfl ⟨by rw [of_one, if_pos (by simpa using h1)]; rfl, (hbw3.setCell (p := ⟨w.heap.size + 1, 0, none⟩) (by simp) _).setCell (p := ⟨w.heap.size + 1, 1, none⟩) (by simp) _⟩
    | [], x :: y :: C', _, _ =>
      go_wp2_with fail
      have t := two_set (.int .i64 0) (.int .i64 0) r0 r1
      exact bodyPost_ret (v := .tuple #[.agg #[.int .i64 0, .int .i64 0], .int .i64 4]) (by simp [results, Tryd.results22, go_sem, t.1, t.2]) rfl ⟨rfl, (hbw2.setCell (p := ⟨w.heap.size + 1, 0, none⟩) (by simp) _).setCell (p := ⟨w.heap.size + 1, 1, none⟩) (by simp) _⟩
    | x :: S', y :: C', _, _ =>
      go_wp2_with fail
      have t := two_set (.int .i64 0) (.int .i64 0) r0 r1
      exact bodyPost_ret (v := .tuple #[.agg #[.int .i64 0, .int .i64 0], .int .i64 4]) (by simp [results, Tryd.results22, go_sem, t.1, t.2]) rfl ⟨rfl, (hbw2.setCell (p := ⟨w.heap.size + 1, 0, none⟩) (by simp) _).setCell (p := ⟨w.heap.size + 1, 1, none⟩) (by simp) _⟩
    | x :: S', [], hS, _ =>
      have hx := hS x (by simp)
      obtain ⟨b, off, rfl, _, hc2⟩ := hs1.cells (by simp)
      have hc0 : wc.cell? ⟨b, off, none⟩ = some (.string x) := hc2 0 (by simp)
      clear hc2 hS
      go_wp2_with fail
      refine (Dec_any _ _ hx).mono ?_
      rintro e w1 ⟨rfl, rfl⟩
      cases hn : numL 10 9 x.data.toList with
      | none =>
        have HN := Lib.hid hn
        clear hn
        simp only [numRes]
        go_wp2_with fail
        have t := two_set (.int .i64 0) (.int .i64 0) r0 r1
        exact bodyPost_ret (v := .tuple #[.agg #[.int .i64 0, .int .i64 0], .int .i64 4]) (by simp [results, Tryd.results22, go_sem, t.1, t.2]) rfl ⟨by rw [of_len, HN.out]; rfl, (hbw2.setCell (p := ⟨w.heap.size + 1, 0, none⟩) (by simp) _).setCell (p := ⟨w.heap.size + 1, 1, none⟩) (by simp) _⟩
      | some k =>
        have HN := Lib.hid hn
        clear hn
        simp only [numRes]
        go_wp2_with fail
        refine (ContFS_any 45 #[.pointer (some ⟨g, 0, none⟩)] (enters_of Tryd.func45 (by kernel_rfl) rfl) _ _ _ ((x :: S').map Value.string) (fun j => .string ((x :: S').getD j ByteArray.empty)) (fun j => !(((x :: S').getD j ByteArray.empty).toList == x.toList)) _ hs1 (by simp at hSl ⊢; omega)
          (fun j hj => by rw [List.getElem?_map, List.getD_eq_getElem?_getD, List.getElem?_eq_getElem (by simpa using hj)]; rfl)
          (fun W j hj hbW => OfCl_any _ g _ _ _ (x :: S') W _ (cell_kept hbW h4) (hs1.below hbW) (Nat.succ_pos _) x rfl)).mono ?_
        rintro e w2 ⟨rfl, hb1⟩
        rw [show (S'.length + 1) = (x :: S').length from rfl, anyN_list (fun y => !(y.toList == x.toList)) (x :: S')]
        have q0 := cell_kept hb1 r0
        have q1 := cell_kept hb1 r1
        have q2 := free_kept hb1 r0 r2
        have q3 := free_kept hb1 r1 r3
        have hbw3 := hbw2.trans (hb1.mono hbw2.size)
        clear r0 r1 r2 r3
        cases hq : (x :: S').any (fun y => !(y.toList == x.toList)) with
        | true =>
          have HQ := Lib.hid hq
          clear hq
          go_wp2_with fail
          have t := two_set (.int .i64 0) (.int .i64 0) q0 q1
          exact bodyPost_ret (v := .tuple #[.agg #[.int .i64 0, .int .i64 0], .int .i64 4]) (by simp [results, Tryd.results22, go_sem, t.1, t.2]) rfl ⟨by rw [of_len, HN.out]; show _ = Ending.returned (ofV (if _ then _ else _)); rw [if_pos HQ.out]; rfl, (hbw3.setCell (p := ⟨w.heap.size + 1, 0, none⟩) (by simp) _).setCell (p := ⟨w.heap.size + 1, 1, none⟩) (by simp) _⟩
        | false =>
          have HQ := Lib.hid hq
          clear hq
          go_wp2_with fail
          have t := two_set (.int .i64 2) (.int .i64 k) q0 q1
          exact bodyPost_ret (v := .tuple #[.agg #[.int .i64 2, .int .i64 k], .int .i64 0]) (by simp [results, Tryd.results22, go_sem, t.1, t.2]) rfl ⟨by rw [of_len, HN.out]; show _ = Ending.returned (ofV (if _ then _ else _)); rw [if_neg (by rw [HQ.out]; decide)]; rfl, (hbw3.setCell (p := ⟨w.heap.size + 1, 0, none⟩) (by simp) _).setCell (p := ⟨w.heap.size + 1, 1, none⟩) (by simp) _⟩
end Go.Proofs.YtchoenfclfafiaaDoor
