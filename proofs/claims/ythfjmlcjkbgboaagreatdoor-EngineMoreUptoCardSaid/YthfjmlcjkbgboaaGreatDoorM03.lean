/- Part 3 of the proof: lemmas and walks that the last texts use. -/
import Derived.Test.YthfjmlcjkbgboaaGreatDoorM02
import Derived.Deep.Draws
import Derived.Deep.Slices
import Derived.Deep.Fields
import Derived.ChangeSame
import Derived.Lib.SmallJoins
import Derived.SizedLaws
namespace Go.Proofs.YthfjmlcjkbgboaaGreatDoor
open Go.RowKit
section
variable {P : List Ins} {s : List UInt8}
inductive EpsS (P : List Ins) (s : List UInt8) (i n : Nat) : Nat → Prop
  | refl : EpsS P s i n n
  | step (m k : Nat) : EpsS P s i n m → Eps P s i m k → EpsS P s i n k
theorem EpsS.front {i n m k : Nat} (h : Eps P s i n m) (h2 : EpsS P s i m k) : EpsS P s i n k := by
  induction h2 with
  | refl => exact .step _ _ .refl h
  | step _ _ _ h3 ih => exact .step _ _ ih h3
/-- From the beginning at i there is a way tq n at j. -/
def R (P : List Ins) (s : List UInt8) (i n j : Nat) : Prop := ∃ L, Path P s n j L 0 i
theorem R.start (i : Nat) : R P s i 0 i := ⟨0, .here⟩
theorem R.eps {i n m j : Nat} (h : R P s i n j) (he : Eps P s j n m) : R P s i m j := by
  obtain ⟨L, p⟩ := h
  exact ⟨_, p.trans (.eps _ _ _ _ he .here)⟩
theorem R.epsS {i n m j : Nat} (h : R P s i n j) (he : EpsS P s j n m) : R P s i m j := by
  induction he with
  | refl => exact h
  | step _ _ _ h2 ih => exact ih.eps h2
theorem R.byte {i n j : Nat} (h : R P s i n j) (hb : ByteAt P s j n) : R P s i (n + 1) (j + 1) := by
  obtain ⟨L, p⟩ := h
  exact ⟨_, p.trans (.byte _ _ _ hb .here)⟩
theorem Path.mono {N j L n i : Nat} (h : Path P s N j L n i) : i ≤ j := by
  induction h with
  | here => exact Nat.le_refl _
  | eps _ _ _ _ _ _ ih => exact ih
  | byte _ _ _ _ _ ih => omega
theorem R.le {i n j : Nat} (h : R P s i n j) : i ≤ j := by obtain ⟨L, p⟩ := h; exact p.mono
theorem Path.same {N j L n i : Nat} (h : Path P s N j L n i) : i = j → EpsS P s j n N := by
  induction h with
  | here => intro _; exact .refl
  | eps _ _ _ _ he _ ih => intro e; subst e; exact EpsS.front he (ih rfl)
  | byte _ _ _ _ hp _ => intro e; have := hp.mono; omega
theorem Path.last {N j L n i : Nat} (h : Path P s N j L n i) : ∀ a, j = a + 1 → i ≤ a → ∃ m, (∃ L', Path P s m a L' n i) ∧ ByteAt P s a m ∧ EpsS P s (a + 1) (m + 1) N := by
  induction h with
  | here => intro a e h; omega
  | eps L n m i he _ ih =>
    intro a e h
    obtain ⟨k, ⟨L', p⟩, hb, hs⟩ := ih a e h
    exact ⟨k, ⟨_, .eps _ _ _ _ he p⟩, hb, hs⟩
  | byte L n i hb hp ih =>
    intro a e h
    by_cases c : i + 1 ≤ a
    · obtain ⟨k, ⟨L', p⟩, hb', hs⟩ := ih a e c
      exact ⟨k, ⟨_, .byte _ _ _ hb p⟩, hb', hs⟩
    · obtain rfl : i = a := by omega
      subst e
      exact ⟨n, ⟨0, .here⟩, hb, hp.same rfl⟩
theorem R.last {i m a : Nat} (h : R P s i m (a + 1)) (hi : i ≤ a) : ∃ n, R P s i n a ∧ ByteAt P s a n ∧ EpsS P s (a + 1) (n + 1) m := by
  obtain ⟨L, p⟩ := h
  exact p.last a rfl hi
theorem R.same {m a : Nat} (h : R P s a m a) : EpsS P s a 0 m := by obtain ⟨L, p⟩ := h; exact p.same rfl
/-- What stands at a place: of each instruction the least beginning, and 1. -/
structure Thr (P : List Ins) (s : List UInt8) (i : Nat) (F : Nat → Nat) (ls : List Nat) : Prop where
  mem : ∀ n, n ∈ ls ↔ F n ≠ 0
  sorted : ls.Pairwise fun a b => F a ≤ F b
  closed : ∀ n m, F n ≠ 0 → Eps P s i n m → F m ≠ 0 ∧ F m ≤ F n
  real : ∀ n, F n ≠ 0 → ∃ k, F n = k + 1 ∧ R P s k n i
theorem Thr.epsS {i n m : Nat} {F : Nat → Nat} {ls : List Nat} (h : Thr P s i F ls) (hn : F n ≠ 0) (he : EpsS P s i n m) : F m ≠ 0 ∧ F m ≤ F n := by
  induction he with
  | refl => exact ⟨hn, Nat.le_refl _⟩
  | step _ _ _ h2 ih => have := h.closed _ _ ih.1 h2; exact ⟨this.1, by omega⟩
theorem Thr.zero (i : Nat) : Thr P s i (fun _ => 0) [] := ⟨fun n => by simp, .nil, fun n m h => absurd rfl h, fun n h => absurd rfl h⟩
structure AddPost (P : List Ins) (s : List UInt8) (i n f : Nat) (F : Nat → Nat) (ls : List Nat) (G : Nat → Nat) (lg : List Nat) : Prop where
  keep : ∀ m, F m ≠ 0 → G m = F m
  new : ∀ m, F m = 0 → G m ≠ 0 → G m = f + 1 ∧ EpsS P s i n m
  lst : ∃ ns, lg = ls ++ ns ∧ ∀ m, m ∈ ns ↔ (F m = 0 ∧ G m ≠ 0)
  at_ : G n ≠ 0
  closed : ∀ m k, F m = 0 → G m ≠ 0 → Eps P s i m k → G k ≠ 0
theorem AddPost.thr {i n f : Nat} {F : Nat → Nat} {ls : List Nat} {G : Nat → Nat} {lg : List Nat} (h : AddPost P s i n f F ls G lg) (hF : Thr P s i F ls) (hmax : ∀ m, F m ≤ f + 1) (hr : R P s f n i) : Thr P s i G lg := by
  obtain ⟨ns, hls, hns⟩ := h.lst
  have hG : ∀ m, G m ≠ 0 → F m = 0 → G m = f + 1 := fun m h1 h2 => (h.new m h2 h1).1
  refine ⟨fun m => ?_, ?_, fun m k hm he => ?_, fun m hm => ?_⟩
  · rw [hls, List.mem_append, hF.mem, hns]
    constructor
    · rintro (h1 | h1)
      · rw [h.keep m h1]; exact h1
      · exact h1.2
    · intro h1
      by_cases c : F m = 0
      · exact .inr ⟨c, h1⟩
      · exact .inl c
  · rw [hls, List.pairwise_append]
    refine ⟨hF.sorted.imp_of_mem fun {a b} ha hb hab => by rw [h.keep a ((hF.mem a).1 ha), h.keep b ((hF.mem b).1 hb)]; exact hab, ?_, fun a ha b hb => ?_⟩
    · refine List.pairwise_iff_forall_sublist.2 fun {a b} hab => ?_
      have ha := (hns a).1 (hab.subset (by simp))
      have hb := (hns b).1 (hab.subset (by simp))
      rw [hG a ha.2 ha.1, hG b hb.2 hb.1]
      exact Nat.le_refl _
    · have hb' := (hns b).1 hb
      rw [h.keep a ((hF.mem a).1 ha), hG b hb'.2 hb'.1]
      exact hmax a
  · by_cases c : F m = 0
    · have h1 := h.closed m k c hm he
      refine ⟨h1, ?_⟩
      rw [hG m hm c]
      by_cases c2 : F k = 0
      · rw [hG k h1 c2]; exact Nat.le_refl _
      · rw [h.keep k c2]; exact hmax k
    · have h1 := hF.closed m k c he
      rw [h.keep m c, h.keep k h1.1]
      exact h1
  · by_cases c : F m = 0
    · obtain ⟨h1, h2⟩ := h.new m c hm
      exact ⟨f, h1, hr.epsS h2⟩
    · rw [h.keep m c]; exact hF.real m c
theorem AddPost.le {i n f : Nat} {F : Nat → Nat} {ls : List Nat} {G : Nat → Nat} {lg : List Nat} (h : AddPost P s i n f F ls G lg) (hmax : ∀ m, F m ≤ f + 1) (m : Nat) : G m ≤ f + 1 := by
  by_cases c : F m = 0
  · by_cases c2 : G m = 0
    · omega
    · rw [(h.new m c c2).1]; exact Nat.le_refl _
  · rw [h.keep m c]; exact hmax m
/-- In the midst of adding. -/
structure DfsI (P : List Ins) (s : List UInt8) (i n f : Nat) (F : Nat → Nat) (ls : List Nat) (G : Nat → Nat) (lg todo : List Nat) : Prop where
  keep : ∀ m, F m ≠ 0 → G m = F m
  new : ∀ m, F m = 0 → G m ≠ 0 → G m = f + 1 ∧ EpsS P s i n m
  lst : ∃ ns, lg = ls ++ ns ∧ ∀ m, m ∈ ns ↔ (F m = 0 ∧ G m ≠ 0)
  at_ : n ∈ todo ∨ G n ≠ 0
  pend : ∀ k ∈ todo, EpsS P s i n k
  closed : ∀ m k, F m = 0 → G m ≠ 0 → Eps P s i m k → G k ≠ 0 ∨ k ∈ todo
theorem DfsI.start (i n f : Nat) (F : Nat → Nat) (ls : List Nat) : DfsI P s i n f F ls F ls [n] :=
  ⟨fun _ _ => rfl, fun m h1 h2 => absurd h1 h2, ⟨[], by simp, fun m => ⟨fun h => (by cases h), fun h => absurd h.1 h.2⟩⟩, .inl (by simp), fun k hk => by rw [List.mem_singleton.1 hk]; exact .refl, fun m k h1 h2 => absurd h1 h2⟩
theorem DfsI.stop {i n f : Nat} {F : Nat → Nat} {ls : List Nat} {G : Nat → Nat} {lg : List Nat} (h : DfsI P s i n f F ls G lg []) : AddPost P s i n f F ls G lg :=
  ⟨h.keep, h.new, h.lst, h.at_.resolve_left (by simp), fun m k h1 h2 h3 => (h.closed m k h1 h2 h3).resolve_right (by simp)⟩
theorem DfsI.skip {i n f k : Nat} {F : Nat → Nat} {ls : List Nat} {G : Nat → Nat} {lg todo : List Nat} (h : DfsI P s i n f F ls G lg (todo ++ [k])) (hk : G k ≠ 0) : DfsI P s i n f F ls G lg todo := by
  refine ⟨h.keep, h.new, h.lst, ?_, fun q hq => h.pend q (by simp [hq]), fun m q h1 h2 h3 => ?_⟩
  · rcases h.at_ with h1 | h1
    · rcases List.mem_append.1 h1 with h2 | h2
      · exact .inl h2
      · rw [List.mem_singleton.1 h2]; exact .inr hk
    · exact .inr h1
  · rcases h.closed m q h1 h2 h3 with h4 | h4
    · exact .inl h4
    · rcases List.mem_append.1 h4 with h5 | h5
      · exact .inr h5
      · rw [List.mem_singleton.1 h5]; exact .inl hk
def upd (G : Nat → Nat) (k v : Nat) : Nat → Nat := fun m => if m = k then v else G m
theorem DfsI.mark {i n f k : Nat} {F : Nat → Nat} {ls : List Nat} {G : Nat → Nat} {lg todo succ : List Nat} (h : DfsI P s i n f F ls G lg (todo ++ [k])) (hk : G k = 0) (hs : ∀ m, m ∈ succ ↔ Eps P s i k m) :
    DfsI P s i n f F ls (upd G k (f + 1)) (lg ++ [k]) (todo ++ succ) := by
  have hFk : F k = 0 := by
    by_cases c : F k = 0
    · exact c
    · exact absurd ((h.keep k c).symm.trans hk) c
  have hkE : EpsS P s i n k := h.pend k (by simp)
  have hG : ∀ m, m ≠ k → upd G k (f + 1) m = G m := fun m hm => by unfold upd; rw [if_neg hm]
  have hGk : upd G k (f + 1) k = f + 1 := by unfold upd; rw [if_pos rfl]
  refine ⟨fun m hm => ?_, fun m h1 h2 => ?_, ?_, ?_, fun q hq => ?_, fun m q h1 h2 h3 => ?_⟩
  · rw [hG m (fun e => hm (by rw [e]; exact hFk))]; exact h.keep m hm
  · by_cases c : m = k
    · subst c; exact ⟨hGk, hkE⟩
    · rw [hG m c] at h2 ⊢; exact h.new m h1 h2
  · obtain ⟨ns, h1, h2⟩ := h.lst
    refine ⟨ns ++ [k], by rw [h1, List.append_assoc], fun m => ?_⟩
    rw [List.mem_append, h2, List.mem_singleton]
    by_cases c : m = k
    · subst c; rw [hGk]; exact ⟨fun _ => ⟨hFk, by omega⟩, fun _ => .inr rfl⟩
    · rw [hG m c]; exact ⟨fun h => h.resolve_right c, fun h => .inl h⟩
  · by_cases c : n = k
    · right; rw [c, hGk]; omega
    · rcases h.at_ with h1 | h1
      · rcases List.mem_append.1 h1 with h2 | h2
        · exact .inl (by simp [h2])
        · exact absurd (List.mem_singleton.1 h2) c
      · right; rw [hG n c]; exact h1
  · rcases List.mem_append.1 hq with h1 | h1
    · exact h.pend q (by simp [h1])
    · exact .step _ _ hkE ((hs q).1 h1)
  · have hq : ∀ q, G q ≠ 0 → upd G k (f + 1) q ≠ 0 := fun q hq => by
      by_cases c : q = k
      · rw [c, hGk]; omega
      · rw [hG q c]; exact hq
    by_cases c : m = k
    · subst c; exact .inr (by simp [(hs q).2 h3])
    · rw [hG m c] at h2
      rcases h.closed m q h1 h2 h3 with h4 | h4
      · exact .inl (hq q h4)
      · rcases List.mem_append.1 h4 with h5 | h5
        · exact .inr (by simp [h5])
        · rw [List.mem_singleton.1 h5, hGk]; exact .inl (by omega)
def Comp (P : List Ins) (s : List UInt8) (i : Nat) (F : Nat → Nat) (found : Bool) (b : Nat) : Prop := ∀ n k, R P s k n i → (found = true → k ≤ b) → F n ≠ 0 ∧ F n ≤ k + 1
def CompLt (P : List Ins) (s : List UInt8) (i : Nat) (F : Nat → Nat) (found : Bool) (b : Nat) : Prop := ∀ n k, R P s k n i → k < i → (found = true → k ≤ b) → F n ≠ 0 ∧ F n ≤ k + 1
theorem comp_found {i b : Nat} {F : Nat → Nat} (h : CompLt P s i F true b) (hb : b < i) : Comp P s i F true b := fun n k hr hk => h n k hr (by have := hk rfl; omega) hk
theorem comp_added {i b : Nat} {F : Nat → Nat} {ls : List Nat} {G : Nat → Nat} {lg : List Nat} (h : CompLt P s i F false b) (hF : Thr P s i F ls) (hmax : ∀ m, F m ≤ i + 1) (ha : AddPost P s i 0 i F ls G lg) : Comp P s i G false b := fun n k hr _ => by
  have hG := ha.thr hF hmax (R.start i)
  have hki := hr.le
  by_cases c : k < i
  · obtain ⟨h1, h2⟩ := h n k hr c (fun e => by cases e)
    rw [ha.keep n h1]; exact ⟨h1, h2⟩
  · obtain rfl : k = i := by omega
    have h1 := hG.epsS ha.at_ hr.same
    exact ⟨h1.1, ha.le hmax n⟩
/-- The best span so far: of those that end ahead of t, and at t if the match was met there. -/
def BestI (P : List Ins) (s : List UInt8) (N : Nat) (T : Nat → Prop) (found : Bool) (f tq : Nat) : Prop :=
  (found = true → R P s f N tq ∧ T tq ∧ ∀ i j, R P s i N j → T j → f < i ∨ (f = i ∧ j ≤ tq)) ∧ (found = false → (∀ i j, T j → ¬ R P s i N j) ∧ f = 0 ∧ tq = 0)
theorem best_none (N : Nat) : BestI P s N (fun j => j < 0) false 0 0 := ⟨fun e => (by cases e), fun _ => ⟨fun i j h => absurd h (by omega), rfl, rfl⟩⟩
/-- The match is met, and counts. -/
theorem best_take {N t f tq k b : Nat} {found found0 : Bool} {F : Nat → Nat} (h : BestI P s N (fun j => j < t) found f tq) (hr : R P s k N t) (hF : F N = k + 1) (hc : Comp P s t F found0 b) (h0 : found0 = true → found = true ∧ f ≤ b) (hk : found = true → k ≤ f) :
    BestI P s N (fun j => j < t + 1) true k t := by
  refine ⟨fun _ => ⟨hr, Nat.lt_succ_self _, fun i j hij hj => ?_⟩, fun e => by cases e⟩
  by_cases c : j < t
  · cases hfd : found with
    | false => exact absurd hij ((h.2 hfd).1 i j c)
    | true =>
      have h1 := (h.1 hfd).2.2 i j hij c
      have h2 := hk hfd
      omega
  · obtain rfl : j = t := by omega
    by_cases c2 : found0 = true → i ≤ b
    · have h1 := (hc N i hij c2).2
      rw [hF] at h1
      omega
    · have c3 : found0 = true := by cases hq : found0; exact absurd (fun e => by rw [hq] at e; cases e) c2; rfl
      have h1 := h0 c3
      have h2 := hk h1.1
      have h3 : ¬ i ≤ b := fun e => c2 fun _ => e
      omega
/-- The match is not met, or counts no more. -/
theorem best_pass {N t f tq b : Nat} {found found0 : Bool} {F : Nat → Nat} (h : BestI P s N (fun j => j < t) found f tq) (hc : Comp P s t F found0 b) (h0 : found0 = true → found = true ∧ f ≤ b) (hno : F N ≠ 0 → found = true ∧ f + 1 < F N) :
    BestI P s N (fun j => j < t + 1) found f tq := by
  have key : ∀ i, R P s i N t → found = true ∧ f < i := fun i hi => by
    by_cases c2 : found0 = true → i ≤ b
    · obtain ⟨h1, h2⟩ := hc N i hi c2
      have h3 := hno h1
      exact ⟨h3.1, by omega⟩
    · have c3 : found0 = true := by cases hq : found0; exact absurd (fun e => by rw [hq] at e; cases e) c2; rfl
      have h1 := h0 c3
      have h3 : ¬ i ≤ b := fun e => c2 fun _ => e
      exact ⟨h1.1, by omega⟩
  refine ⟨fun e => ⟨(h.1 e).1, by have := (h.1 e).2.1; omega, fun i j hij hj => ?_⟩, fun e => ⟨fun i j hj hij => ?_, (h.2 e).2⟩⟩
  · by_cases c : j < t
    · exact (h.1 e).2.2 i j hij c
    · obtain rfl : j = t := by omega
      exact .inl (key i hij).2
  · by_cases c : j < t
    · exact (h.2 e).1 i j c hij
    · obtain rfl : j = t := by omega
      have := (key i hij).1
      rw [e] at this; cases this
/-- The next place, out of all that was processed. -/
theorem next_comp {t f b : Nat} {found found0 : Bool} {F G : Nat → Nat} {lg : List Nat} (hc : Comp P s t F found0 b) (h0 : found0 = true → found = true ∧ f ≤ b) (hG : Thr P s (t + 1) G lg)
    (hp : ∀ n, F n ≠ 0 → ByteAt P s t n → (found = true → F n ≤ f + 1) → G (n + 1) ≠ 0 ∧ G (n + 1) ≤ F n) : CompLt P s (t + 1) G found f := fun m k hr hk hf => by
  obtain ⟨n, h1, h2, h3⟩ := hr.last (by omega)
  obtain ⟨h4, h5⟩ := hc n k h1 (fun e => by have := h0 e; have := hf this.1; omega)
  obtain ⟨h6, h7⟩ := hp n h4 h2 (fun e => by have := hf e; omega)
  obtain ⟨h8, h9⟩ := hG.epsS h6 h3
  exact ⟨h8, by omega⟩
end
end Go.Proofs.YthfjmlcjkbgboaaGreatDoor
namespace Go.Proofs.YthfjmlcjkbgboaaGreatDoor
open Go.RowKit
/-- The slice that begins at A, of n elements of so many cells each, reads as these cells, and lies in a block below B. -/
structure Sl (w : World) (B size : Nat) (A : Option Addr) (n : Nat) (xs : List Value) : Prop where
  len : xs.length = n * size
  src : 0 < xs.length → ∃ b off, A = some ⟨b, off, none⟩ ∧ b < B ∧ ∀ j (h : j < xs.length), w.cell? ⟨b, off + j, none⟩ = some xs[j]
theorem Sl.nil (w : World) (B size : Nat) (A : Option Addr) : Sl w B size A 0 [] := ⟨by simp, fun h => absurd h (by simp)⟩
theorem Sl.keep {w w' : World} {B size n : Nat} {A : Option Addr} {xs : List Value} (h : Sl w B size A n xs) (hk : ∀ b o, b < B → w'.cell? ⟨b, o, none⟩ = w.cell? ⟨b, o, none⟩) : Sl w' B size A n xs :=
  ⟨h.len, fun hp => by
    obtain ⟨b, off, e, hb, hc⟩ := h.src hp
    exact ⟨b, off, e, hb, fun j hj => (hk b _ hb).trans (hc j hj)⟩⟩
theorem Sl.below {w w' : World} {B size n : Nat} {A : Option Addr} {xs : List Value} (h : Sl w B size A n xs) (hb : Below B w w') : Sl w' B size A n xs :=
  h.keep fun b o hp => hb.cell (p := ⟨b, o, none⟩) hp
theorem Sl.more {w : World} {B B' size n : Nat} {A : Option Addr} {xs : List Value} (h : Sl w B size A n xs) (hB : B ≤ B') : Sl w B' size A n xs :=
  ⟨h.len, fun hp => by
    obtain ⟨b, off, e, hb, hc⟩ := h.src hp
    exact ⟨b, off, e, by omega, hc⟩⟩
theorem Sl.drewN {w : World} {B size n : Nat} {A : Option Addr} {xs : List Value} (h : Sl w B size A n xs) (q : Nat) : Sl (w.drewN q) B size A n xs := h.keep fun _ _ _ => rfl
theorem Sl.alloc {w : World} {B size n : Nat} {A : Option Addr} {xs : List Value} (h : Sl w B size A n xs) (hB : B ≤ w.heap.size) (o : Obj) : Sl (w.alloc o) B size A n xs :=
  h.below ((Below.refl _ _).alloc hB _)
theorem Sl.set {w : World} {B size n : Nat} {A : Option Addr} {xs : List Value} (h : Sl w B size A n xs) {p : Addr} (hB : B ≤ p.block) (u : Value) : Sl (w.setCell p u) B size A n xs :=
  h.below ((Below.refl _ _).setCell hB _)
theorem new_cell {W w' : World} {cs : Array Value} {t : TypeId} (hb : Below (W.alloc (.cells cs t)).heap.size (W.alloc (.cells cs t)) w') (j : Nat) : w'.cell? ⟨W.heap.size, j, none⟩ = cs[j]? :=
  (hb.cell (p := ⟨W.heap.size, j, none⟩) (by simp)).trans (cell_of_row (W.alloc (.cells cs t)) W.heap.size j cs t (0, 0) (heap_alloc_new W _))
theorem free_kept {W W' : World} (hb : Below W.heap.size W W') {p : Addr} {x : Value} (h : W.cell? p = some x) (hf : W.frozen? p = false) : W'.frozen? p = false := (hb.frozen (World.block_lt_of_cell? W p h)).trans hf
theorem undrew {B : Nat} {W w' : World} (hb : Below B W.drew w') : Below B W w' := ⟨hb.os, hb.tape, hb.output, hb.size, hb.block⟩
theorem below_new {B : Nat} {W w' : World} {o : Obj} (hb : Below (W.alloc o).heap.size (W.alloc o) w') (hB : B ≤ W.heap.size) : Below B W w' :=
  ((Below.refl B W).alloc hB o).trans (hb.mono (by simp; omega))
theorem cell_kept {W W' : World} (hb : Below W.heap.size W W') {p : Addr} {x : Value} (h : W.cell? p = some x) : W'.cell? p = some x := (hb.cell (World.block_lt_of_cell? W p h)).trans h
theorem ownsRow_below {w w' : World} {base : Nat} {e : TypeId} {size : Nat} {v : Value} {n : Nat} {xs : List Value} (h : w.ownsRow base e size v n xs) (hb : Below w.heap.size w w') : w'.ownsRow base e size v n xs := by
  refine ⟨h.1, ?_⟩
  rcases h.2 with h0 | ⟨g, cap, cur, h1, h2, h3, h4⟩
  · exact .inl h0
  · exact .inr ⟨g, cap, cur, h1, h2, (hb.block g (h.lt g (by rw [h1]; rfl)).2).trans h3, h4⟩
theorem Sl.lit {W : World} {cs : Array Value} {t : TypeId} {g B n size : Nat} {xs : List Value} (hg : W.heap.size = g) (hB : g < B) (hx : cs.toList = xs) (h : xs.length = n * size) : Sl (W.alloc (.cells cs t)) B size (some ⟨g, 0, none⟩) n xs := by
  subst hg; subst hx
  exact ⟨h, fun _ => ⟨_, 0, rfl, hB, fun j hj => by rw [Nat.zero_add, cell_of_row (W.alloc (.cells cs t)) W.heap.size j cs t (0, 0) (heap_alloc_new W _)]; simp [Array.getElem?_eq_getElem (by simpa using hj : j < cs.size)]⟩⟩
theorem two_set {w : World} {g : Nat} {x' y' : Value} (x y : Value) (h0 : w.cell? ⟨g, 0, none⟩ = some x') (h1 : w.cell? ⟨g, 1, none⟩ = some y') :
    ((w.setCell ⟨g, 0, none⟩ x).setCell ⟨g, 1, none⟩ y).cell? ⟨g, 0, none⟩ = some x ∧ ((w.setCell ⟨g, 0, none⟩ x).setCell ⟨g, 1, none⟩ y).cell? ⟨g, 1, none⟩ = some y := by
  have n1 : (⟨g, 1, none⟩ : Addr) ≠ ⟨g, 0, none⟩ := by intro e; cases e
  refine ⟨?_, ?_⟩
  · rw [World.cell?_setCell_other _ _ _ _ n1, World.cell?_setCell_same _ _ _ h0]
  · exact World.cell?_setCell_same (w.setCell ⟨g, 0, none⟩ x) _ _ ((World.cell?_setCell_other _ _ _ _ (Ne.symm n1)).trans h1)
theorem box_facts {w W' : World} {cs : Array Value} {t : TypeId} (hb : Below (w.heap.size + 1) (w.alloc (.cells cs t)) W') : (∀ j, W'.cell? ⟨w.heap.size, j, none⟩ = cs[j]?) ∧ Below w.heap.size w W' := by
  have hb' : Below (w.alloc (.cells cs t)).heap.size (w.alloc (.cells cs t)) W' := by simpa using hb
  exact ⟨fun j => new_cell hb' j, below_new hb' (Nat.le_refl _)⟩
/-- What a function hands back that makes a row of its own. -/
def RowIs (e : TypeId) (size n : Nat) (xs : List Value) (w : World) (r : Ending) (w' : World) : Prop := ∃ v, r = .returned v ∧ w'.ownsRow w.heap.size e size v n xs ∧ Below w.heap.size w w'
/-- A row of strings of the call's own. -/
def OwnS (w : World) (base : Nat) (v : Value) (l : List ByteArray) : Prop := w.ownsRow base 9 1 v l.length (l.map Value.string)
theorem OwnS.nil (w : World) (base : Nat) : OwnS w base (.slice none 0 0) [] := World.ownsRow_nil w base 9 1
theorem OwnS.form {w : World} {base : Nat} {v : Value} {l : List ByteArray} (h : OwnS w base v l) : ∃ A c, v = .slice A l.length c ∧ Sl w w.heap.size 1 A l.length (l.map Value.string) := by
  rcases h.2 with ⟨h1, h2⟩ | ⟨g, cap, cur, h1, hb, hg, _⟩
  · have : l = [] := List.eq_nil_of_length_eq_zero h2
    subst this
    exact ⟨none, 0, h1, Sl.nil _ _ _ _⟩
  · refine ⟨_, _, h1, by simp, fun hp => ⟨g, 0, rfl, ?_, fun j hj => ?_⟩⟩
    · exact ((h.lt g (by rw [h1]; simp [Value.ownBlock])).2)
    · have := World.ownsRow.cells (g := g) h (by rw [h1]; simp [Value.ownBlock]) j _ (List.getElem?_eq_getElem hj)
      rw [addr_add] at this
      rw [Nat.zero_add]
      exact this
theorem OwnS.below {w w' : World} {base : Nat} {v : Value} {l : List ByteArray} (h : OwnS w base v l) (hb : Below w.heap.size w w') : OwnS w' base v l := ownsRow_below h hb
theorem OwnS.later {w w' : World} {base : Nat} {v : Value} {l : List ByteArray} {o : Obj} (h : OwnS w base v l) (hb : Below (w.alloc o).heap.size (w.alloc o) w') : OwnS w' base v l := ownsRow_below h (below_new hb (Nat.le_refl _))
theorem OwnS.sl {w : World} {base : Nat} {A : Option Addr} {n c : Nat} {l : List ByteArray} (h : OwnS w base (.slice A n c) l) : Sl w w.heap.size 1 A l.length (l.map Value.string) := by
  obtain ⟨A', c', e, hs⟩ := h.form
  injection e with e1 e2 e3
  subst e1
  exact hs
theorem OwnS.far {w : World} {base g : Nat} {v : Value} {l : List ByteArray} (h : OwnS w base v l) (hne : ∀ k, v.ownBlock = some k → k ≠ g) (j : Nat) (x : Value) : OwnS (w.setCell ⟨g, j, none⟩ x) base v l :=
  ownsRow_setCell_other (a := ⟨g, j, none⟩) h (fun e => hne g e rfl) x
theorem OwnS.lt {w : World} {base : Nat} {v : Value} {l : List ByteArray} (h : OwnS w base v l) : ∀ k, v.ownBlock = some k → base ≤ k ∧ k < w.heap.size := World.ownsRow.lt h
theorem info_str : (Tryz.prog.info? 9).map (fun i => (i.zero, i.size, i.bytes)) = some (some (.string ByteArray.empty), 1, 16) := by kernel_rfl
section
variable {ops : Array Oper} {rest : List Oper} {o : Oper} {a : Act} {Q : Exit → Act → World → Prop} {w : World}
/-- append of a list that was just built, onto a row of the call's own: besides, what other blocks hold stays. -/
theorem wp_append_kept {K : Act → World → Prop} (s x : Operand) (t : TypeId) (ho : o.op = .call { callee := .builtin .append, args := #[s, x], argTypes := #[t, t] })
    (base : Nat) (e : TypeId) (i : TypeInfo) (z : Value) (size bytes : Nat) (ht : Tryz.prog.underlying t = some (.slice e)) (hi : Tryz.prog.info? e = some i) (hz : i.zero = some z)
    (hsize : i.size = size) (hby : i.bytes = bytes) (hzs : z.cells.size = size) (hsz : 0 < size)
    (v : Value) (n : Nat) (xs : List Value) (hs : a.eval s = v) (hown : w.ownsRow base e size v n xs) (hbase : base ≤ w.heap.size)
    (vs : List Value) (m c : Nat) (hx : a.eval x = .slice (some ⟨w.heap.size, 0, none⟩) m c) (hl : vs.length = m * size) (h1 : ∀ u ∈ vs, u.oneCell' = true)
    (h63 : n + m ≤ maxLen) (hbytes : (n + m) * bytes ≤ 140737488355328)
    (h : ∀ v' w', w'.ownsRow base e size v' (n + m) (xs ++ vs) → Below base w w' → (∀ g, g < w.heap.size → v.ownBlock ≠ some g → w'.heap[g]? = w.heap[g]?) → w.heap.size < w'.heap.size → K (a.put o.dst v') w') :
    o.wp Tryz.prog a (w.alloc (.cells vs.toArray e)) K Q := by
  have hown2 := hown.alloc (.cells vs.toArray e)
  refine wp_append_own (P := Tryz.prog) (w.alloc (.cells vs.toArray e)) s x t ho base e i z size bytes ht hi hz hsize hby hzs hsz v n xs hs hown2 ⟨w.heap.size, 0, none⟩ m c vs hx hl (cells_new w vs e) h1 h63 hbytes (by simp; omega) ?_
  intro v' w' ho' hg _
  have hb1 : Below base w (w.alloc (.cells vs.toArray e)) := (Below.refl _ _).alloc hbase _
  have hb2 := hb1.grown hg (by simp; omega) (fun k hk => (hown.lt k hk).1)
  refine h v' w' ho' hb2 (fun g hg' hne => (hg.block g (by simp; omega) (fun e => hne e.symm)).trans (Below.heap_alloc _ _ _ hg')) ?_
  have := hg.size
  simp at this
  omega
theorem wpList_append_s (hgd : o.guard = none) (s x : Operand) (ho : o.op = .call { callee := .builtin .append, args := #[s, x], argTypes := #[146, 146] })
    (base : Nat) (v : Value) (l : List ByteArray) (hs : a.eval s = v) (hown : OwnS w base v l) (hbase : base ≤ w.heap.size)
    (vs : List Value) (news : List ByteArray) (hv : vs = news.map Value.string) (m c : Nat) (hx : a.eval x = .slice (some ⟨w.heap.size, 0, none⟩) m c) (hl : news.length = m)
    (hbytes : (l.length + m) * 16 ≤ 140737488355328)
    (h : ∀ v' w', OwnS w' base v' (l ++ news) → Below base w w' → (∀ g, g < w.heap.size → v.ownBlock ≠ some g → w'.heap[g]? = w.heap[g]?) → w.heap.size < w'.heap.size → wpList Tryz.prog ops Q rest (a.put o.dst v') w') :
    wpList Tryz.prog ops Q (o :: rest) a (w.alloc (.cells vs.toArray 9)) := by
  subst hv; subst hl
  obtain ⟨i0, hi, hz0, hz1, hz2⟩ := info_parts info_str
  exact wpList_plain hgd fun _ hK => wp_append_kept s x 146 ho base 9 i0 (.string ByteArray.empty) 1 16 Tryz.underlying146 hi hz0 hz1 hz2 rfl (by decide) v l.length (l.map Value.string) hs hown hbase (news.map Value.string) news.length c hx (by simp)
    (fun u hu => by obtain ⟨b, _, rfl⟩ := List.mem_map.1 hu; rfl) (by unfold maxLen; omega) (by omega) fun v' w' h1 h2 h3 h4 => hK _ _ (h v' w' (by unfold OwnS; rw [List.length_append, List.map_append]; exact h1) h2 h3 h4)
end
def cellsF (fs : List (ByteArray × ByteArray)) : List Value := fs.flatMap fun f => [.string f.1, .string f.2]
theorem cellsF_len (fs : List (ByteArray × ByteArray)) : (cellsF fs).length = fs.length * 2 := by
  induction fs with
  | nil => rfl
  | cons f r ih => simp only [cellsF, List.flatMap_cons, List.length_append, List.length_cons, List.length_nil] at ih ⊢; omega
theorem cellsF_at : ∀ (fs : List (ByteArray × ByteArray)) (k : Nat) (h : k < fs.length), (cellsF fs)[k * 2]? = some (.string fs[k].1) ∧ (cellsF fs)[k * 2 + 1]? = some (.string fs[k].2)
  | [], k, h => absurd h (by simp)
  | f :: r, 0, h => ⟨rfl, rfl⟩
  | f :: r, k + 1, h => by
    have ih := cellsF_at r k (by simpa using h)
    have e : cellsF (f :: r) = .string f.1 :: .string f.2 :: cellsF r := rfl
    rw [e, show (k + 1) * 2 = k * 2 + 1 + 1 by omega]
    exact ih
theorem Sl.field {w : World} {B n : Nat} {A : Option Addr} {fs : List (ByteArray × ByteArray)} (h : Sl w B 2 A n (cellsF fs)) {k : Nat} (hk : k < fs.length) :
    ∃ b off, A = some ⟨b, off, none⟩ ∧ b < B ∧ w.cell? ⟨b, off + k * 2, none⟩ = some (.string fs[k].1) ∧ w.cell? ⟨b, off + k * 2 + 1, none⟩ = some (.string fs[k].2) := by
  have hl := cellsF_len fs
  obtain ⟨b, off, e, hb, hc⟩ := h.src (by omega)
  obtain ⟨h1, h2⟩ := cellsF_at fs k hk
  have hc1 := hc (k * 2) (by omega)
  have hc2 := hc (k * 2 + 1) (by omega)
  rw [List.getElem?_eq_getElem (by omega)] at h1 h2
  refine ⟨b, off, e, hb, by rw [hc1]; exact h1, by rw [Nat.add_assoc, hc2]; exact h2⟩
end Go.Proofs.YthfjmlcjkbgboaaGreatDoor
namespace Go.Proofs.YthfjmlcjkbgboaaGreatDoor
open Go.RowKit Go.ChangeShapes Go.WideShapes Go.Deep
theorem flat_len {α : Type} (cells : α → List Value) (size : Nat) (hsz : ∀ a, (cells a).length = size) : ∀ l : List α, (l.flatMap cells).length = l.length * size
  | [] => by simp
  | a :: r => by rw [List.flatMap_cons, List.length_append, hsz, flat_len cells size hsz r, List.length_cons, Nat.succ_mul]; omega
theorem flat_at {α : Type} (cells : α → List Value) (size : Nat) (hsz : ∀ a, (cells a).length = size) : ∀ (l : List α) (k j : Nat) (h : k < l.length), j < size → (l.flatMap cells)[k * size + j]? = (cells l[k])[j]?
  | [], k, j, h, _ => absurd h (by simp)
  | a :: r, 0, j, h, hj => by
    rw [List.flatMap_cons, Nat.zero_mul, Nat.zero_add, List.getElem?_append_left (by rw [hsz]; exact hj)]; rfl
  | a :: r, k + 1, j, h, hj => by
    rw [List.flatMap_cons, List.getElem?_append_right (by rw [hsz, Nat.succ_mul]; omega), hsz, show (k + 1) * size + j - size = k * size + j by rw [Nat.succ_mul]; omega]
    exact flat_at cells size hsz r k j (by simpa using h) hj
section
variable {H : Type} {enc : TypeId × Value → H} {P : Program} {w : World} {base : Nat} {spare : Nat → Bool} {held : Bool}
/-- A slice opened: its elements as a list, each with what its own reading tells. -/
theorem open_list {α : Type} {t e : TypeId} {fuel : Nat} {cs : List Value} {x : DataW H × List MemPlace} (size : Nat) (cells : α → List Value) (dat : α → DataW H) (Ok : α → Prop)
    (ht : P.underlying t = some (.slice e)) (hC : P.cellsOf e = size) (hsz : ∀ a, (cells a).length = size)
    (hel : ∀ n cs' y, DataW.trod enc P w base spare held n e cs' = some y → ∃ a : α, cs' = cells a ∧ y.1 = dat a ∧ Ok a)
    (h : DataW.trod enc P w base spare held fuel t cs = some x) :
    ∃ (A : Option Addr) (len c : Nat) (l : List α), cs = [.slice A len c] ∧ l.length = len ∧ len ≤ c ∧ c ≤ maxLen ∧ (∀ a ∈ l, Ok a) ∧ Sl w w.heap.size size A len (l.flatMap cells) ∧
      ((x.1 = .nil ∧ l = []) ∨ ∃ sp, x.1 = .slice (l.map dat) sp) := by
  rcases open_slice ht h with ⟨h1, h2⟩ | ⟨a, len, cap, m, n, D, Pl, hcs, hb, hl, hm, hmm, hx, hi⟩
  · exact ⟨none, 0, 0, [], h1, rfl, Nat.le_refl _, Nat.zero_le _, by simp, Sl.nil _ _ _ _, .inl ⟨by rw [h2], rfl⟩⟩
  · have hlm : len ≤ m := by rw [hmm]; split <;> omega
    have hall : ∀ i, i < len → ∃ a' : α, w.cells? base (a.add (i * size)) size = some (cells a') ∧ D i = dat a' ∧ Ok a' := fun i him => by
      obtain ⟨cs', hc, ht'⟩ := hi i (by omega)
      obtain ⟨a', e1, e2, e3⟩ := hel _ _ _ ht'
      rw [hC] at hc
      subst e1
      exact ⟨a', hc, e2, e3⟩
    have hlist : ∀ k, k ≤ len → ∃ l : List α, l.length = k ∧ (∀ i (h : i < l.length), w.cells? base (a.add (i * size)) size = some (cells l[i]) ∧ D i = dat l[i] ∧ Ok l[i]) := by
      intro k
      induction k with
      | zero => exact fun _ => ⟨[], rfl, fun i h => absurd h (by simp)⟩
      | succ k ih =>
        intro hk
        obtain ⟨l, hl1, hl2⟩ := ih (by omega)
        obtain ⟨a', q⟩ := hall k (by omega)
        refine ⟨l ++ [a'], by rw [List.length_append, hl1]; rfl, fun i h => ?_⟩
        by_cases c : i < l.length
        · rw [List.getElem_append_left c]; exact hl2 i c
        · have hik : i = k := by rw [List.length_append, List.length_cons, List.length_nil] at h; omega
          subst hik
          rw [List.getElem_append_right (by omega)]
          simpa [hl1] using q
    obtain ⟨l, hl1, hl2⟩ := hlist len (Nat.le_refl _)
    refine ⟨some a, len, cap, l, hcs, hl1, hl, hm, fun x hx => ?_, ?_, .inr ⟨(List.range (m - len)).map fun j => D (len + j), ?_⟩⟩
    · obtain ⟨i, hi', rfl⟩ := List.mem_iff_getElem.1 hx
      exact (hl2 i hi').2.2
    · refine ⟨by rw [flat_len cells size hsz, hl1], fun hp => ?_⟩
      rw [flat_len cells size hsz] at hp
      have hp1 : 0 < l.length := Nat.pos_of_mul_pos_right hp
      have hp2 : 0 < size := Nat.pos_of_mul_pos_left hp
      have h0 := (World.cells?_some (hl2 0 hp1).1).2.2 0 hp2
      have hsome : ∃ v, w.cell? a = some v := by
        have h00 : (cells l[0])[0]? = some ((cells l[0])[0]'(by rw [hsz]; exact hp2)) := List.getElem?_eq_getElem _
        rw [h00, Nat.zero_mul] at h0
        exact ⟨_, by simpa [Addr.add] using h0⟩
      obtain ⟨v, hv⟩ := hsome
      have hsp := World.cell?_spot hv
      obtain ⟨b, off, spot⟩ := a
      have : spot = none := hsp
      subst this
      refine ⟨b, off, rfl, World.block_lt_of_cell? w ⟨b, off, none⟩ hv, fun j hj => ?_⟩
      have hj' : j < l.length * size := by rw [flat_len cells size hsz] at hj; exact hj
      have e1 : j / size * size + j % size = j := by rw [Nat.mul_comm]; exact Nat.div_add_mod j size
      have hk : j / size < l.length := Nat.div_lt_of_lt_mul (by rw [Nat.mul_comm]; exact hj')
      have hm2 : j % size < size := Nat.mod_lt _ hp2
      have hat := flat_at cells size hsz l (j / size) (j % size) hk hm2
      rw [e1] at hat
      have hc := (World.cells?_some (hl2 _ hk).1).2.2 (j % size) hm2
      rw [← hat, List.getElem?_eq_getElem hj, Go.WideShapes.add_plain, Go.WideShapes.add_plain, Nat.add_assoc, e1] at hc
      exact hc
    · rw [hx]
      show DataW.slice _ _ = DataW.slice _ _
      congr 1
      refine List.ext_getElem (by simp [hl1]) fun i h1 h2 => ?_
      have hi' : i < l.length := by simpa using h2
      simp [(hl2 i hi').2.1]
end
def fieldD {H : Type} (f : ByteArray × ByteArray) : DataW H := .agg [.lit (.string f.1.data.toList), .lit (.string f.2.data.toList)]
theorem list_two {α : Type} {l : List α} (h : l.length = 2) : ∃ a b, l = [a, b] := by
  match l, h with
  | [a, b], _ => exact ⟨a, b, rfl⟩
theorem cellsOf_str : Tryz.prog.cellsOf 9 = 1 := by kernel_rfl
theorem cellsOf_field : Tryz.prog.cellsOf 152 = 2 := by kernel_rfl
theorem open_fields {H : Type} {enc : TypeId × Value → H} {w : World} {base : Nat} {spare : Nat → Bool} {held : Bool} {fuel : Nat} {cs : List Value} {x : DataW H × List MemPlace}
    (h : DataW.trod enc Tryz.prog w base spare held fuel 34 cs = some x) :
    ∃ (A : Option Addr) (c : Nat) (fs : List (ByteArray × ByteArray)), cs = [.slice A fs.length c] ∧ (∀ f ∈ fs, f.1.size ≤ maxLen ∧ f.2.size ≤ maxLen) ∧ Sl w w.heap.size 2 A fs.length (cellsF fs) ∧
      ((x.1 = .nil ∧ fs = []) ∨ ∃ sp, x.1 = .slice (fs.map fieldD) sp) := by
  obtain ⟨A, len, c, l, h1, h2, _, _, h5, h6, h7⟩ := open_list 2 (fun f : ByteArray × ByteArray => [.string f.1, .string f.2]) fieldD (fun f => f.1.size ≤ maxLen ∧ f.2.size ≤ maxLen) Tryz.underlying34 cellsOf_field (fun _ => rfl)
    (fun n cs' y hy => by
      obtain ⟨y0, y1, n', hx, hl, h0, h1⟩ := trod_struct2 Tryz.underlying152 hy
      rw [cellsOf_field] at hl
      obtain ⟨c0, c1, rfl⟩ := list_two hl
      rw [cellsOf_str] at h0 h1
      obtain ⟨s0, e0, x0, z0⟩ := DataW.trod_string Tryz.underlying9 h0
      obtain ⟨s1, e1, x1, z1⟩ := DataW.trod_string Tryz.underlying9 h1
      injection e0 with e0 _
      injection e1 with e1 _
      subst e0; subst e1; subst x0; subst x1; subst hx
      exact ⟨(s0, s1), rfl, rfl, z0, z1⟩) h
  subst h2
  exact ⟨A, c, l, h1, h5, h6, h7⟩
theorem cellsOf_head : Tryz.prog.cellsOf 36 = 3 := by kernel_rfl
/-- What an argument that is a head tells. -/
structure HeadArg (W : World) (v : Value) (m t : ByteArray) (A : Option Addr) (c : Nat) (fs : List (ByteArray × ByteArray)) : Prop where
  val : v = .agg #[.string m, .string t, .slice A fs.length c]
  sl : Sl W W.heap.size 2 A fs.length (cellsF fs)
  sizes : ∀ f ∈ fs, f.1.size ≤ maxLen ∧ f.2.size ≤ maxLen
  msize : m.size ≤ maxLen
  tsize : t.size ≤ maxLen
end Go.Proofs.YthfjmlcjkbgboaaGreatDoor
