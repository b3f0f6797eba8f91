/- ring.Recover as a function on lists of blocks. -/
import Derived.Test.YtjdmindpiaijcaaMap
import Derived.Test.YtjdmindpiaijcaaPures
namespace Go.Proofs.Ytjdmindpiaijcaa

/-- A block as Go holds it: any numbers. -/
structure GB where
  life : Int
  boot : Int
  n : Int
  off : Int
  data : List UInt8
def GB.cells (b : GB) : List Value := [.int .i64 b.life, .int .i64 b.boot, .int .i64 b.n, .int .i64 b.off, .string (S b.data)]
def GB.val (b : GB) : Value := .agg #[.int .i64 b.life, .int .i64 b.boot, .int .i64 b.n, .int .i64 b.off, .string (S b.data)]
def GB.zero : GB := ⟨0, 0, 0, 0, []⟩
def GB.pick (life : Int) (b : GB) : Bool := b.life == life && (decide (0 ≤ b.n) && decide (b.n ≤ 4294967295))
/-- What is found, by number: of several with one number the last one. -/
def foundOf (life : Int) (l : List GB) : List (Int × GB) := l.foldl (fun m b => if b.pick life then mput m b.n b else m) []
def greatestOf (life : Int) (l : List GB) : Int := l.foldl (fun g b => if b.pick life then max g b.n else g) (-1)
theorem foundOf_snoc (life : Int) (l : List GB) (b : GB) : foundOf life (l ++ [b]) = if b.pick life then mput (foundOf life l) b.n b else foundOf life l := by simp [foundOf, List.foldl_append]
theorem greatestOf_snoc (life : Int) (l : List GB) (b : GB) : greatestOf life (l ++ [b]) = if b.pick life then max (greatestOf life l) b.n else greatestOf life l := by simp [greatestOf, List.foldl_append]
/-- The block of a number; the zero block if there is none. -/
def at? (m : List (Int × GB)) (n : Int) : GB := (mget m n).getD GB.zero
def mayUp (m : List (Int × GB)) (begin blocks n : Int) : Bool := (mget m n).isSome && (decide (n < begin + blocks) && (n == begin || decide ((at? m (n - 1)).boot ≤ (at? m n).boot)))
def mayDown (m : List (Int × GB)) (least n : Int) : Bool := (mget m (n - 1)).isSome && decide (least < n)
def goUp (may : Int → Bool) : Nat → Int → Int
  | 0, a => a
  | k + 1, a => if may a then goUp may k (a + 1) else a
def goDown (may : Int → Bool) : Nat → Int → Int
  | 0, a => a
  | k + 1, a => if may a then goDown may k (a - 1) else a
def sumLen (m : List (Int × GB)) : Nat → Int → Int
  | 0, _ => 0
  | k + 1, a => sumLen m k a + ((at? m (a + k)).data.length : Int)
structure Plc where
  f : Int
  t : Int
  off : Int
  len : Int
def Plc.val (p : Plc) : Value := .agg #[.int .i64 p.f, .int .i64 p.t, .int .i64 p.off, .int .i64 p.len]
def recover (files blocks life : Int) (l : List GB) : Plc :=
  let m := foundOf life l
  let g := greatestOf life l
  if g < 0 then ⟨0, 0, 0, 0⟩ else
  let begin := g / blocks * blocks
  let to := goUp (mayUp m begin blocks) blocks.toNat begin
  let least := max 0 ((g / blocks - files + 1) * blocks)
  let f := goDown (mayDown m least) (to - least).toNat to
  ⟨f, to, if f < to then (at? m f).off else 0, sumLen m (to - f).toNat f⟩
theorem greatestOf_ge (life : Int) (l : List GB) : -1 ≤ greatestOf life l := by
  induction l using snocInd with
  | h0 => simp [greatestOf]
  | h1 l b ih => rw [greatestOf_snoc]; split <;> omega
theorem greatestOf_le (life : Int) (l : List GB) : greatestOf life l ≤ 4294967295 := by
  induction l using snocInd with
  | h0 => simp [greatestOf]
  | h1 l b ih =>
    rw [greatestOf_snoc]
    split
    · rename_i h
      simp [GB.pick] at h
      omega
    · exact ih
theorem goUp_le (may : Int → Bool) : ∀ k a, a ≤ goUp may k a ∧ goUp may k a ≤ a + k
  | 0, a => by simp [goUp]
  | k + 1, a => by
    unfold goUp
    split
    · have := goUp_le may k (a + 1); omega
    · omega
theorem goDown_le (may : Int → Bool) : ∀ k a, goDown may k a ≤ a ∧ a - k ≤ goDown may k a
  | 0, a => by simp [goDown]
  | k + 1, a => by
    unfold goDown
    split
    · have := goDown_le may k (a - 1); omega
    · omega
theorem mayUp_end (m : List (Int × GB)) (begin blocks n : Int) (h : begin + blocks ≤ n) : mayUp m begin blocks n = false := by
  unfold mayUp
  rw [decide_eq_false (by omega : ¬ n < begin + blocks)]
  simp
theorem mayDown_end (m : List (Int × GB)) (least n : Int) (h : n ≤ least) : mayDown m least n = false := by
  unfold mayDown
  rw [decide_eq_false (by omega : ¬ least < n)]
  simp
theorem mget_mem {α : Type} {m : List (Int × α)} {k : Int} {v : α} (h : mget m k = some v) : (k, v) ∈ m := by
  unfold mget at h
  obtain ⟨p, hp, rfl⟩ := Option.map_eq_some_iff.1 h
  have h1 := List.mem_of_find?_eq_some hp
  have h2 := List.find?_some hp
  simp at h2
  subst h2
  exact h1
theorem mput_mem {α : Type} {m : List (Int × α)} {k : Int} {v : α} {p : Int × α} (h : p ∈ mput m k v) : p = (k, v) ∨ p ∈ m := by
  induction m with
  | nil => simp [mput] at h; exact .inl h
  | cons q r ih =>
    unfold mput at h
    split at h
    · rcases List.mem_cons.1 h with h | h
      · exact .inl h
      · exact .inr (.tail _ h)
    · rcases List.mem_cons.1 h with h | h
      · exact .inr (h ▸ .head _)
      · rcases ih h with h | h
        · exact .inl h
        · exact .inr (.tail _ h)
theorem foundOf_mem {life : Int} {l : List GB} {k : Int} {b : GB} (h : (k, b) ∈ foundOf life l) : b ∈ l ∧ b.n = k ∧ b.pick life = true := by
  induction l using snocInd with
  | h0 => simp [foundOf] at h
  | h1 l c ih =>
    rw [foundOf_snoc] at h
    split at h
    · rename_i hc
      rcases mput_mem h with h | h
      · cases h
        exact ⟨by simp, rfl, hc⟩
      · obtain ⟨h1, h2⟩ := ih h
        exact ⟨by simp [h1], h2⟩
    · obtain ⟨h1, h2⟩ := ih h
      exact ⟨by simp [h1], h2⟩
theorem at_data {life : Int} {l : List GB} {D : Nat} (h : ∀ b ∈ l, b.data.length ≤ D) (k : Int) : (at? (foundOf life l) k).data.length ≤ D := by
  unfold at?
  cases hg : mget (foundOf life l) k with
  | none => simp [GB.zero]
  | some b => exact h b (foundOf_mem (mget_mem hg)).1
theorem sumLen_le {m : List (Int × GB)} {D : Nat} (h : ∀ k, (at? m k).data.length ≤ D) : ∀ (j : Nat) (a : Int), 0 ≤ sumLen m j a ∧ sumLen m j a ≤ (j : Int) * D
  | 0, a => by simp [sumLen]
  | j + 1, a => by
    have h1 := sumLen_le h j a
    have h2 := h (a + j)
    unfold sumLen
    constructor
    · omega
    · have : (((j + 1 : Nat) : Int)) * D = (j : Int) * D + D := by rw [Int.natCast_add, Int.add_mul]; simp
      omega
theorem span_le {q blocks files to least : Int} (h1 : to ≤ q * blocks + blocks) (h2 : (q - files + 1) * blocks ≤ least) (hf : files ≤ 64) (_hf0 : 0 ≤ files) (hb0 : 0 ≤ blocks) (hb : blocks ≤ 64) : to - least ≤ 4096 := by
  have e : (q - files + 1) * blocks = q * blocks - files * blocks + blocks := by rw [Int.add_mul, Int.sub_mul, Int.one_mul]
  have e2 : files * blocks ≤ 64 * 64 := Int.mul_le_mul hf hb hb0 (by omega)
  omega
end Go.Proofs.Ytjdmindpiaijcaa
