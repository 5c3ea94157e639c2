/- The set of rules that the laws begin with. -/
import Derived.Test.YtdkbfljhfhjofaaGreatDoorM39
import Derived.Test.YtdkbfljhfhjofaaGreatDoorM41
import Derived.Test.YtdkbfljhfhjofaaGreatDoorM42
namespace Go.Proofs.YtdkbfljhfhjofaaGreatDoor
open Go.RowKit

def evilB : ByteArray := ByteArray.mk #[101, 118, 105, 108]
def dropB : ByteArray := ByteArray.mk #[100, 114, 111, 112, 124, 115, 101, 108, 101, 99, 116]
def simpleSet : RuSet := ⟨10, 403, [⟨1, 1, [⟨3, 0, ByteArray.mk #[]⟩], [], false, 4, evilB, [⟨2, 404⟩], false⟩, ⟨2, 2, [⟨6, 0, ByteArray.mk #[]⟩], [1], false, 2, dropB, [⟨3, 10⟩], false⟩]⟩
theorem drop_pieces : piecesP dropB = [⟨#[100, 114, 111, 112]⟩, ⟨#[115, 101, 108, 101, 99, 116]⟩] := by decide +kernel
theorem drop_arg : argC 2 dropB = 0 := by
  have h : mkC (piecesP dropB) = 0 := by
    rw [drop_pieces]
    exact mkC_ok.2 ⟨good_of_code (by decide +kernel), not_full (by decide +kernel)⟩
  unfold argC
  rw [if_neg (by decide), if_pos rfl, h]; rfl
theorem evil_arg : argC 4 evilB = 0 := by
  unfold argC
  rw [if_neg (by decide), if_neg (by decide), if_neg (by decide), if_neg (by decide), if_neg (by decide), if_neg (by decide), if_neg (by decide)]
theorem simple_check' (f : Int → ByteArray → Int) (h1 : f 4 evilB = 0) (h2 : f 2 dropB = 0) : checkR f simpleSet = 0 := by
  have v1 : firstC varC [⟨3, 0, ByteArray.mk #[]⟩] = 0 := by decide
  have v2 : firstC varC [⟨6, 0, ByteArray.mk #[]⟩] = 0 := by decide
  have a1 : firstC actC [⟨2, 404⟩] = 0 := by decide
  have a2 : firstC actC [⟨3, 10⟩] = 0 := by decide
  have p1 : checkP [] = 0 := by decide
  have p2 : checkP [1] = 0 := by decide
  simp [checkR, simpleSet, goC, oneC, chainC, v1, v2, a1, a2, p1, p2, h1, h2]
theorem simple_check : checkR argC simpleSet = 0 := simple_check' argC evil_arg drop_arg
def simpleT : List UInt8 := [115, 99, 111, 114, 101, 32, 49, 48, 32, 52, 48, 51, 10, 114, 117, 108, 101, 32, 49, 32, 49, 32, 112, 97, 116, 104, 32, 45, 32, 104, 97, 115, 32, 101, 118, 105, 108, 32, 100, 101, 110, 121, 58, 52, 48, 52, 10] ++ [114, 117, 108, 101, 32, 50, 32, 50, 32, 97, 114, 103, 115, 32, 108, 111, 119, 101, 114, 32, 112, 104, 114, 97, 115, 101, 32, 100, 114, 111, 112, 124, 115, 101, 108, 101, 99, 116, 32, 115, 99, 111, 114, 101, 58, 49, 48, 10]
theorem simple_text : printR simpleSet = simpleT := by decide +kernel
theorem printR_len {r : RuSet} (h : checkR argC r = 0) (hs : ∀ x ∈ r.list, RuSmall x) : (printR r).length ≤ 2000000000 := by
  obtain ⟨hm, hf, h40⟩ := checkR_fit h
  have h1 : ∀ l : List RuOne, (∀ x ∈ l, (lineR x).length ≤ 40000000) → (l.flatMap fun x => lineR x ++ [10]).length ≤ l.length * 40000001 := fun l => by
    induction l with
    | nil => intro _; simp
    | cons a t ih =>
      intro h
      have h1 := ih fun x hx => h x (by simp [hx])
      have h2 := h a (by simp)
      rw [List.flatMap_cons, List.length_append, List.length_append, List.length_cons, List.length_cons, List.length_nil]
      omega
  have h2 := h1 r.list fun x hx => lineR_len (hf x hx) (hs x hx)
  have h3 := ruJoin_len 32 7 [scoreW, decS r.most.toNat, decS r.status.toNat] (fun w hw => by
    simp only [List.mem_cons, List.not_mem_nil, or_false] at hw
    rcases hw with rfl | rfl | rfl
    · decide
    · exact dec1000 _ (by omega)
    · exact dec1000 _ (by omega))
  unfold printR headR
  rw [List.length_append, List.length_cons]
  simp only [List.length_cons, List.length_nil] at h3
  omega
theorem blk_new (w : World) (o : Obj) (g : Nat) (h : w.heap.size = g) : (w.alloc o).heap[g]? = some o := by rw [← h]; exact heap_alloc_new w o
theorem sl_block {w : World} {g B n size : Nat} {xs : List Value} {t : TypeId} (h : w.heap[g]? = some (.cells xs.toArray t (0, 0))) (hB : g < B) (hl : xs.length = n * size) : Sl w B size (some ⟨g, 0, none⟩) n xs :=
  ⟨hl, fun _ => ⟨g, 0, rfl, hB, fun j hj => by rw [Nat.zero_add, cell_of_row w g j _ _ (0, 0) h, List.getElem?_toArray, List.getElem?_eq_getElem hj]⟩⟩
theorem simple_lies (w F : World) (hF : F = (((((((w.alloc (.cells #[.int .i64 10, .int .i64 403, .slice (some ⟨w.heap.size + 1 + 1 + 1 + 1 + 1 + 1, 0, none⟩) 2 2] 24)).alloc (.cells #[.int .i64 3, .int .i64 0, .string (ByteArray.mk #[])] 49)).alloc (.cells #[.int .i64 2, .int .i64 404] 70)).alloc (.cells #[.int .i64 6, .int .i64 0, .string (ByteArray.mk #[])] 49)).alloc (.cells #[.int .i64 1] 3)).alloc (.cells #[.int .i64 3, .int .i64 10] 70)).alloc (.cells #[.int .i64 1, .int .i64 1, .slice (some ⟨w.heap.size + 1, 0, none⟩) 1 1, .slice none 0 0, .bool false, .int .i64 4, .string evilB, .slice (some ⟨w.heap.size + 1 + 1, 0, none⟩) 1 1, .bool false, .int .i64 2, .int .i64 2, .slice (some ⟨w.heap.size + 1 + 1 + 1, 0, none⟩) 1 1, .slice (some ⟨w.heap.size + 1 + 1 + 1 + 1, 0, none⟩) 1 1, .bool false, .int .i64 2, .string dropB, .slice (some ⟨w.heap.size + 1 + 1 + 1 + 1 + 1, 0, none⟩) 1 1, .bool false] 39))) : ((⟨10, 403, some ⟨w.heap.size + 1 + 1 + 1 + 1 + 1 + 1, 0, none⟩, 2, [⟨⟨1, 1, [⟨3, 0, ByteArray.mk #[]⟩], [], false, 4, evilB, [⟨2, 404⟩], false⟩, some ⟨w.heap.size + 1, 0, none⟩, 1, none, 0, some ⟨w.heap.size + 1 + 1, 0, none⟩, 1⟩, ⟨⟨2, 2, [⟨6, 0, ByteArray.mk #[]⟩], [1], false, 2, dropB, [⟨3, 10⟩], false⟩, some ⟨w.heap.size + 1 + 1 + 1, 0, none⟩, 1, some ⟨w.heap.size + 1 + 1 + 1 + 1, 0, none⟩, 1, some ⟨w.heap.size + 1 + 1 + 1 + 1 + 1, 0, none⟩, 1⟩]⟩ : RuArg)).set = simpleSet ∧ RuLies F F.heap.size (⟨10, 403, some ⟨w.heap.size + 1 + 1 + 1 + 1 + 1 + 1, 0, none⟩, 2, [⟨⟨1, 1, [⟨3, 0, ByteArray.mk #[]⟩], [], false, 4, evilB, [⟨2, 404⟩], false⟩, some ⟨w.heap.size + 1, 0, none⟩, 1, none, 0, some ⟨w.heap.size + 1 + 1, 0, none⟩, 1⟩, ⟨⟨2, 2, [⟨6, 0, ByteArray.mk #[]⟩], [1], false, 2, dropB, [⟨3, 10⟩], false⟩, some ⟨w.heap.size + 1 + 1 + 1, 0, none⟩, 1, some ⟨w.heap.size + 1 + 1 + 1 + 1, 0, none⟩, 1, some ⟨w.heap.size + 1 + 1 + 1 + 1 + 1, 0, none⟩, 1⟩]⟩ : RuArg) ∧ RuBulk (⟨10, 403, some ⟨w.heap.size + 1 + 1 + 1 + 1 + 1 + 1, 0, none⟩, 2, [⟨⟨1, 1, [⟨3, 0, ByteArray.mk #[]⟩], [], false, 4, evilB, [⟨2, 404⟩], false⟩, some ⟨w.heap.size + 1, 0, none⟩, 1, none, 0, some ⟨w.heap.size + 1 + 1, 0, none⟩, 1⟩, ⟨⟨2, 2, [⟨6, 0, ByteArray.mk #[]⟩], [1], false, 2, dropB, [⟨3, 10⟩], false⟩, some ⟨w.heap.size + 1 + 1 + 1, 0, none⟩, 1, some ⟨w.heap.size + 1 + 1 + 1 + 1, 0, none⟩, 1, some ⟨w.heap.size + 1 + 1 + 1 + 1 + 1, 0, none⟩, 1⟩]⟩ : RuArg) ∧ Below w.heap.size w F ∧ R3 F w.heap.size 10 403 (.slice (some ⟨w.heap.size + 1 + 1 + 1 + 1 + 1 + 1, 0, none⟩) 2 2) := by
  have hz : F.heap.size = w.heap.size + 7 := by rw [hF]; simp
  have h0 : F.heap[w.heap.size]? = some (.cells #[.int .i64 10, .int .i64 403, .slice (some ⟨w.heap.size + 1 + 1 + 1 + 1 + 1 + 1, 0, none⟩) 2 2] 24 (0, 0)) := by rw [hF]; exact (Below.heap_alloc _ _ _ (by simp only [World.size_alloc]; omega)).trans ((Below.heap_alloc _ _ _ (by simp only [World.size_alloc]; omega)).trans ((Below.heap_alloc _ _ _ (by simp only [World.size_alloc]; omega)).trans ((Below.heap_alloc _ _ _ (by simp only [World.size_alloc]; omega)).trans ((Below.heap_alloc _ _ _ (by simp only [World.size_alloc]; omega)).trans ((Below.heap_alloc _ _ _ (by simp only [World.size_alloc]; omega)).trans (blk_new _ _ _ (by first | rfl | simp only [World.size_alloc])))))))
  have h1 : F.heap[w.heap.size + 1]? = some (.cells #[.int .i64 3, .int .i64 0, .string (ByteArray.mk #[])] 49 (0, 0)) := by rw [hF]; exact (Below.heap_alloc _ _ _ (by simp only [World.size_alloc]; omega)).trans ((Below.heap_alloc _ _ _ (by simp only [World.size_alloc]; omega)).trans ((Below.heap_alloc _ _ _ (by simp only [World.size_alloc]; omega)).trans ((Below.heap_alloc _ _ _ (by simp only [World.size_alloc]; omega)).trans ((Below.heap_alloc _ _ _ (by simp only [World.size_alloc]; omega)).trans (blk_new _ _ _ (by first | rfl | simp only [World.size_alloc]))))))
  have h2 : F.heap[w.heap.size + 1 + 1]? = some (.cells #[.int .i64 2, .int .i64 404] 70 (0, 0)) := by rw [hF]; exact (Below.heap_alloc _ _ _ (by simp only [World.size_alloc]; omega)).trans ((Below.heap_alloc _ _ _ (by simp only [World.size_alloc]; omega)).trans ((Below.heap_alloc _ _ _ (by simp only [World.size_alloc]; omega)).trans ((Below.heap_alloc _ _ _ (by simp only [World.size_alloc]; omega)).trans (blk_new _ _ _ (by first | rfl | simp only [World.size_alloc])))))
  have h3 : F.heap[w.heap.size + 1 + 1 + 1]? = some (.cells #[.int .i64 6, .int .i64 0, .string (ByteArray.mk #[])] 49 (0, 0)) := by rw [hF]; exact (Below.heap_alloc _ _ _ (by simp only [World.size_alloc]; omega)).trans ((Below.heap_alloc _ _ _ (by simp only [World.size_alloc]; omega)).trans ((Below.heap_alloc _ _ _ (by simp only [World.size_alloc]; omega)).trans (blk_new _ _ _ (by first | rfl | simp only [World.size_alloc]))))
  have h4 : F.heap[w.heap.size + 1 + 1 + 1 + 1]? = some (.cells #[.int .i64 1] 3 (0, 0)) := by rw [hF]; exact (Below.heap_alloc _ _ _ (by simp only [World.size_alloc]; omega)).trans ((Below.heap_alloc _ _ _ (by simp only [World.size_alloc]; omega)).trans (blk_new _ _ _ (by first | rfl | simp only [World.size_alloc])))
  have h5 : F.heap[w.heap.size + 1 + 1 + 1 + 1 + 1]? = some (.cells #[.int .i64 3, .int .i64 10] 70 (0, 0)) := by rw [hF]; exact (Below.heap_alloc _ _ _ (by simp only [World.size_alloc]; omega)).trans (blk_new _ _ _ (by first | rfl | simp only [World.size_alloc]))
  have h6 : F.heap[w.heap.size + 1 + 1 + 1 + 1 + 1 + 1]? = some (.cells #[.int .i64 1, .int .i64 1, .slice (some ⟨w.heap.size + 1, 0, none⟩) 1 1, .slice none 0 0, .bool false, .int .i64 4, .string evilB, .slice (some ⟨w.heap.size + 1 + 1, 0, none⟩) 1 1, .bool false, .int .i64 2, .int .i64 2, .slice (some ⟨w.heap.size + 1 + 1 + 1, 0, none⟩) 1 1, .slice (some ⟨w.heap.size + 1 + 1 + 1 + 1, 0, none⟩) 1 1, .bool false, .int .i64 2, .string dropB, .slice (some ⟨w.heap.size + 1 + 1 + 1 + 1 + 1, 0, none⟩) 1 1, .bool false] 39 (0, 0)) := by rw [hF]; exact blk_new _ _ _ (by first | rfl | simp only [World.size_alloc])
  have hb : Below w.heap.size w F := by
    rw [hF]
    exact ((((((((Below.refl _ _).alloc (Nat.le_refl _) _).alloc (by simp) _).alloc (by simp; omega) _).alloc (by simp; omega) _).alloc (by simp; omega) _).alloc (by simp; omega) _).alloc (by simp; omega) _)
  refine ⟨rfl, ⟨sl_block h6 (by omega) rfl, fun x hx => ?_, Nat.le_refl _⟩, ⟨by show 2 ≤ 1048576; decide, fun x hx => ?_⟩, hb, h0⟩
  · rcases List.mem_cons.1 hx with rfl | hx
    · exact ⟨sl_block h1 (by omega) rfl, Sl.nil _ _ _ _, sl_block h2 (by omega) rfl⟩
    · rw [List.mem_singleton.1 hx]
      exact ⟨sl_block h3 (by omega) rfl, sl_block h4 (by omega) rfl, sl_block h5 (by omega) rfl⟩
  · rcases List.mem_cons.1 hx with rfl | hx
    · exact ⟨by show 1 ≤ 1048576; decide, fun v hv => by rw [List.mem_singleton.1 hv]; show 0 ≤ 1048576; decide, by show 0 ≤ 1048576; decide, by show evilB.size ≤ 1048576; decide, by show 1 ≤ 1048576; decide⟩
    · rw [List.mem_singleton.1 hx]
      exact ⟨by show 1 ≤ 1048576; decide, fun v hv => by rw [List.mem_singleton.1 hv]; show 0 ≤ 1048576; decide, by show 1 ≤ 1048576; decide, by show dropB.size ≤ 1048576; decide, by show 1 ≤ 1048576; decide⟩
set_option maxRecDepth 100000 in
set_option maxHeartbeats 1600000 in
theorem simple_any (w : World) : Calls Tryz.prog 8 #[] w fun e w' => ∃ a : RuArg, e = .returned a.value ∧ a.set = simpleSet ∧ RuLies w' w'.heap.size a ∧ RuBulk a ∧ Below w.heap.size w w' := by
  obtain ⟨F, hF⟩ : ∃ F, F = (((((((w.alloc (.cells #[.int .i64 10, .int .i64 403, .slice (some ⟨w.heap.size + 1 + 1 + 1 + 1 + 1 + 1, 0, none⟩) 2 2] 24)).alloc (.cells #[.int .i64 3, .int .i64 0, .string (ByteArray.mk #[])] 49)).alloc (.cells #[.int .i64 2, .int .i64 404] 70)).alloc (.cells #[.int .i64 6, .int .i64 0, .string (ByteArray.mk #[])] 49)).alloc (.cells #[.int .i64 1] 3)).alloc (.cells #[.int .i64 3, .int .i64 10] 70)).alloc (.cells #[.int .i64 1, .int .i64 1, .slice (some ⟨w.heap.size + 1, 0, none⟩) 1 1, .slice none 0 0, .bool false, .int .i64 4, .string evilB, .slice (some ⟨w.heap.size + 1 + 1, 0, none⟩) 1 1, .bool false, .int .i64 2, .int .i64 2, .slice (some ⟨w.heap.size + 1 + 1 + 1, 0, none⟩) 1 1, .slice (some ⟨w.heap.size + 1 + 1 + 1 + 1, 0, none⟩) 1 1, .bool false, .int .i64 2, .string dropB, .slice (some ⟨w.heap.size + 1 + 1 + 1 + 1 + 1, 0, none⟩) 1 1, .bool false] 39)) := ⟨_, rfl⟩
  have HL := Lib.hid (simple_lies w F hF)
  have HF := Lib.hid hF
  clear hF
  unfold evilB dropB at HF
  go_enter Tryz.func8, Tryz.ntmps8
  go_wp2_with fail
  rw [← HF.out]
  exact bodyPost_ret (v := .agg #[.int .i64 10, .int .i64 403, .slice (some ⟨w.heap.size + 1 + 1 + 1 + 1 + 1 + 1, 0, none⟩) 2 2]) (by simp [results, Tryz.results8, go_sem, HL.out.2.2.2.2.cell.1, HL.out.2.2.2.2.cell.2.1, HL.out.2.2.2.2.cell.2.2]) rfl ⟨(⟨10, 403, some ⟨w.heap.size + 1 + 1 + 1 + 1 + 1 + 1, 0, none⟩, 2, [⟨⟨1, 1, [⟨3, 0, ByteArray.mk #[]⟩], [], false, 4, evilB, [⟨2, 404⟩], false⟩, some ⟨w.heap.size + 1, 0, none⟩, 1, none, 0, some ⟨w.heap.size + 1 + 1, 0, none⟩, 1⟩, ⟨⟨2, 2, [⟨6, 0, ByteArray.mk #[]⟩], [1], false, 2, dropB, [⟨3, 10⟩], false⟩, some ⟨w.heap.size + 1 + 1 + 1, 0, none⟩, 1, some ⟨w.heap.size + 1 + 1 + 1 + 1, 0, none⟩, 1, some ⟨w.heap.size + 1 + 1 + 1 + 1 + 1, 0, none⟩, 1⟩]⟩ : RuArg), rfl, HL.out.1, HL.out.2.1, HL.out.2.2.1, HL.out.2.2.2.1⟩
end Go.Proofs.YtdkbfljhfhjofaaGreatDoor
