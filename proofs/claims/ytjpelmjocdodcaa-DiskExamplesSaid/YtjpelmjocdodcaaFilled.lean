/- sacristanlaw04.filled: a disk after writes. -/
import Derived.Test.YtjpelmjocdodcaaLab
namespace Go.Proofs.Ytjpelmjocdodcaa
open Go.RowKit Go.ChangeMaps

/-- The slice A holds the writes l (sector, seed). -/
def PutsAt (w : World) (A : Option Addr) (l : List (Nat × Nat)) : Prop :=
  ∀ i (h : i < l.length), l[i].1 < 256 ∧ l[i].2 < 256 ∧ ∃ ad : Addr, A = some ad ∧ w.cell? (ad.add (i * 2)) = some (.int .u8 (l[i].1 : Int)) ∧ w.cell? ⟨(ad.add (i * 2)).block, (ad.add (i * 2)).off + 1, none⟩ = some (.int .u8 (l[i].2 : Int))
theorem PutsAt.below {w' : World} {A : Option Addr} {l : List (Nat × Nat)} {B : Nat} {w0 : World} (h : PutsAt w0 A l) (hB : B = w0.heap.size) (b : Below B w0 w') : PutsAt w' A l := fun i hi => by
  subst hB
  obtain ⟨h1, h2, ad, hA, c1, c2⟩ := h i hi
  exact ⟨h1, h2, ad, hA, below_cell b c1, below_cell b c2⟩
def fillAt (n : Nat) (sm : Int) (l : List (Nat × Nat)) : Nat → Dk
  | 0 => Dk.new n
  | i + 1 =>
    if (i : Int) + 1 = sm then ((fillAt n sm l i).write ((l.getD i (0, 0)).1 % n) (sectorOf (l.getD i (0, 0)).2)).sync
    else (fillAt n sm l i).write ((l.getD i (0, 0)).1 % n) (sectorOf (l.getD i (0, 0)).2)
def fillD (n : Nat) (sm : Int) (l : List (Nat × Nat)) : Dk := fillAt n sm l l.length
theorem fillAt_length (n : Nat) (sm : Int) (l : List (Nat × Nat)) : ∀ i, (fillAt n sm l i).S.length = n := by
  intro i
  induction i with
  | zero => simp [fillAt, Dk.new]
  | succ i ih =>
    unfold fillAt
    split
    · exact (putAll_length _ _).trans ih
    · exact ih
theorem fillAt_pend (n : Nat) (sm : Int) (l : List (Nat × Nat)) : ∀ i, (fillAt n sm l i).P.length ≤ i := by
  intro i
  induction i with
  | zero => simp [fillAt, Dk.new]
  | succ i ih =>
    unfold fillAt
    split
    · simp [Dk.sync]
    · simp [Dk.write]; omega
def strsOf (l : List (List UInt8)) : List Value := l.map fun s => .string (S s)
/-- What filled hands back. -/
def Filled (w : World) (n : Nat) (sm : Int) (l : List (Nat × Nat)) (e : Ending) (w' : World) : Prop :=
  ∃ d f m v u, e = .returned (.tuple #[.pointer (some ⟨d, 0, none⟩), u]) ∧ Lab w' d f m v (fillD n sm l) .idle ∧ From w.heap.size d f m v ∧ Below w.heap.size w w' ∧
    w'.ownsRow 0 9 1 u n (strsOf ((List.range n).map fun i => (fillD n sm l).read i)) ∧ (∀ k, u.ownBlock = some k → w.heap.size ≤ k) ∧ ∀ k, u.ownBlock = some k → ¬ Own d f m v k
theorem doRead_ok {D : Dk} {z : Fz} {i : Nat} (hi : i < D.S.length) (hz : z.dead = false) : doRead D z i = (D.read i, 0) := by
  have he : hasE D i = 0 := if_pos ⟨by omega, by omega⟩
  unfold doRead
  rw [if_pos he, hz, Int.toNat_natCast]
  rfl
theorem doWrite_ok {D : Dk} {i : Nat} {s : List UInt8} (hi : i < D.S.length) (hs : s.length = 80) : doWrite D .idle i s = (0, D.write i s, .idle) := by
  have he : hasE D i = 0 := if_pos ⟨by omega, by omega⟩
  unfold doWrite
  rw [if_pos he, if_pos hs, Int.toNat_natCast]
  rfl
theorem doSync_ok (D : Dk) : doSync D .idle = (0, D.sync, .idle) := rfl
theorem addr_block (a : Addr) (n : Nat) : (a.add n).block = a.block := by unfold Addr.add; split <;> rfl
theorem keep2 {W w' : World} {x y : Addr} {u v : Value} (h : W.cell? x = some u ∧ W.cell? y = some v) (b : Below W.heap.size W w') : w'.cell? x = some u ∧ w'.cell? y = some v := ⟨below_cell b h.1, below_cell b h.2⟩
theorem keep2w {W w' : World} {S : Nat → Prop} {x y : Addr} {u v : Value} (h : W.cell? x = some u ∧ W.cell? y = some v) (k : Keeps S W w') (hx : ¬ S x.block) (hy : ¬ S y.block) : w'.cell? x = some u ∧ w'.cell? y = some v := ⟨k.cell h.1 hx, k.cell h.2 hy⟩
set_option maxRecDepth 100000 in
set_option maxHeartbeats 400000 in
theorem filled_any (n : Nat) (h1 : 1 ≤ n) (h12 : n ≤ 12) (A : Option Addr) (cap : Nat) (l : List (Nat × Nat)) (hl : l.length ≤ 60) (sm : Int) (w : World) (hp : PutsAt w A l) :
    Calls Try.prog 17 #[.int .i64 n, .slice A l.length cap, .int .i64 sm] w (Filled w n sm l) := by
  have H1 := Lib.hid h1
  have H12 := Lib.hid h12
  go_enter Try.func17, Try.ntmps17
  go_wp2_with (fail)
  refine (fnew_any w).mono ?_
  rintro e w1 ⟨rfl, hw1⟩
  have HS1 := Lib.hid (show w1.heap.size = w.heap.size + 1 by rw [hw1]; exact alloc_size _ _)
  have HW1 := Lib.hid hw1
  clear hw1
  go_wp2_with (fail)
  refine (dnew_ok n w.heap.size w1 h1 (by omega) (by have := HS1.out; omega)).mono ?_
  rintro e w2 ⟨rfl, hd, hb⟩
  obtain ⟨h2, F2, B2⟩ := Lab.new HW1.out hd hb
  obtain ⟨d, hdd⟩ : ∃ d, w1.heap.size + 1 = d := ⟨_, rfl⟩
  obtain ⟨m, hmm⟩ : ∃ m, w1.heap.size = m := ⟨_, rfl⟩
  obtain ⟨f, hff⟩ : ∃ f, w.heap.size = f := ⟨_, rfl⟩
  have h2' : ∃ v, Lab w2 d f m v (fillAt n sm l 0) .idle ∧ From w.heap.size d f m v ∧ Below w.heap.size w w2 := by
    rw [← hdd, ← hmm, ← hff]
    exact ⟨_, h2, F2, B2⟩
  have H2 := Lib.hid h2'
  rw [hdd]
  clear hd hb hdd hmm hff h2 F2 B2 HW1 HS1 h2'
  go_wp2_with (fail)
  go_loopw [10] (fun v10 wr => ∃ i : Nat, i ≤ l.length ∧ v10 = .int .i64 i ∧ Hid (∃ v, Lab wr d f m v (fillAt n sm l i) .idle ∧ From w.heap.size d f m v ∧ Below w.heap.size w wr)) (fun v10 _ => l.length - (intOf v10).toNat)
  case atStart => exact ⟨0, Nat.zero_le _, rfl, H2.out⟩
  case round =>
    obtain ⟨i, hi, rfl, hr⟩ := hrel
    by_cases hlt : i < l.length
    · obtain ⟨v, hLab, hFrom, hBel⟩ := hr.out
      obtain ⟨_, _, ad0, hA0, c0, _⟩ := hp i hlt
      obtain ⟨q1, q2, ad, rfl, c1, c2⟩ := PutsAt.below (w0 := w) hp rfl hBel i hlt
      have HF : Hid (fillAt n sm l (i + 1) = if (i : Int) + 1 = sm then ((fillAt n sm l i).write (l[i].1 % n) (sectorOf l[i].2)).sync else (fillAt n sm l i).write (l[i].1 % n) (sectorOf l[i].2)) := by
        have e : l.getD i (0, 0) = l[i] := by rw [List.getD_eq_getElem?_getD, List.getElem?_eq_getElem hlt]; rfl
        unfold Hid
        rw [← e]
        rfl
      obtain rfl : ad = ad0 := by injection hA0
      clear hA0
      obtain ⟨⟨a, b⟩, hab⟩ : ∃ p, l[i] = p := ⟨_, rfl⟩
      rw [hab] at q1 q2 c1 c2 HF
      dsimp only at q1 q2 c1 c2 HF
      obtain ⟨D, hD⟩ : ∃ D, fillAt n sm l i = D := ⟨_, rfl⟩
      have hDl : D.S.length = n := by rw [← hD]; exact fillAt_length ..
      have hDp : D.P.length ≤ 1000000 := by rw [← hD]; exact Nat.le_trans (fillAt_pend ..) (by omega)
      rw [hD] at hLab HF
      have HL := Lib.hid hLab
      have HFr := Lib.hid hFrom
      have HBl := Lib.hid hBel
      have HDL := Lib.hid hDl
      have HDP := Lib.hid hDp
      obtain ⟨r, hrr⟩ : ∃ r, a % n = r := ⟨_, rfl⟩
      rw [hrr] at HF
      have hrn : r < n := by rw [← hrr]; exact Nat.mod_lt _ (by omega)
      have x1 : (a : Int) % (n : Int) = (r : Int) := by rw [← hrr]; rfl
      have x2 : (a : Int).tmod (n : Int) = (r : Int) := by rw [Int.tmod_eq_emod_of_nonneg (by omega)]; exact x1
      have hn0 : ¬ n = 0 := by omega
      have HM : Hid ((IntKind.i64.wrap (a : Int)).tmod (n : Int) = (r : Int)) := by
        show (IntKind.i64.wrap (a : Int)).tmod (n : Int) = (r : Int)
        rw [show IntKind.i64.wrap (a : Int) = (a : Int) by rw [IntKind.wrap_i64]; omega]
        exact x2
      clear x1 x2
      have hDr : r < D.S.length := by omega
      have HDR := Lib.hid hDr
      clear hLab hFrom hBel hDl hDp hab hD hrr hr hDr
      have hx : ¬ Own d f m v ad.block := fun ho => by
        have h1 := HFr.out _ ho
        have := World.block_lt_of_cell? _ _ c0
        rw [addr_block] at this
        omega
      have hx1 : ¬ Own d f m v (ad.add (i * 2)).block := by rw [addr_block]; exact hx
      have HX1 := Lib.hid hx1
      have hw0 : wr.drew.cell? (ad.add (i * 2)) = some (.int .u8 (a : Int)) ∧ wr.drew.cell? ⟨(ad.add (i * 2)).block, (ad.add (i * 2)).off + 1, none⟩ = some (.int .u8 (b : Int)) := ⟨c1, c2⟩
      have HW0 := Lib.hid hw0
      clear hx hx1 hw0 c0
      go_wp2_with (fail)
      refine wp_region_noPanic ?_
      go_region_held3 (fun w' => w'.cell? (ad.add (i * 2)) = some (.int .u8 (a : Int)) ∧ w'.cell? ⟨(ad.add (i * 2)).block, (ad.add (i * 2)).off + 1, none⟩ = some (.int .u8 (b : Int))) (first | exact HW0.out | exact keep2w (by assumption) k4 HX1.out HX1.out | exact keep2 (by assumption) b3)
        (first | (go_at_call 20; refine (sector_any b q2 _).mono ?_; rintro e w3 ⟨rfl, b3⟩) | (go_at_call 19; rw [HM.out]; refine (dwrite_any d f m v D .idle r (sectorOf b) _ ((HL.out.below (Below.refl _ wr).drew).below b3).disk ((HL.out.below (Below.refl _ wr).drew).below b3).fuse HDP.out).mono ?_; rw [doWrite_ok HDR.out (sectorOf_length b)]; rintro e w4 ⟨rfl, ha⟩; obtain ⟨v4, h4, k4, n4⟩ := ha.lab))
      refine NoPanic.normal ?_
      have hB3 : Below w.heap.size w w3 := below_step b3 HBl.out.drew (Nat.le_refl _)
      have hB4 : Below w.heap.size w w4 := HFr.out.below hB3 hB3.size k4
      have hF4 : From w.heap.size d f m v4 := HFr.out.new n4 hB3.size
      have HH4 := Lib.hid (And.intro h4 (And.intro hF4 hB4))
      clear h4 k4 n4 hB3 hB4 hF4 b3 HW0 c1 c2 hp HX1 hn0 HL HFr HBl HM
      by_cases hs : (i : Int) + 1 = sm
      · rw [if_pos hs] at HF
        go_wp2_with (go_at_call 26; refine (dsync_any d f m v4 _ .idle _ HH4.out.1.disk HH4.out.1.fuse).mono ?_; rw [doSync_ok]; rintro e w5 ⟨rfl, ha5⟩)
        obtain ⟨v5, h5, k5, n5⟩ := ha5.lab
        have HH5 : Hid (∃ v, Lab w5 d f m v (fillAt n sm l (i + 1)) .idle ∧ From w.heap.size d f m v ∧ Below w.heap.size w w5) := ⟨v5, by rw [HF.out]; exact h5, HH4.out.2.1.new n5 HH4.out.2.2.size, HH4.out.2.1.below HH4.out.2.2 HH4.out.2.2.size k5⟩
        clear h5 k5 n5 HH4 ha5
        go_roundw
        case rel => exact ⟨i + 1, by omega, by go_num, HH5⟩
        case measure => simp [intOf]; omega
      · rw [if_neg hs] at HF
        have HH5 : Hid (∃ v, Lab w4 d f m v (fillAt n sm l (i + 1)) .idle ∧ From w.heap.size d f m v ∧ Below w.heap.size w w4) := ⟨v4, by rw [HF.out]; exact HH4.out.1, HH4.out.2⟩
        clear HH4
        go_wp2_with (fail)
        go_roundw
        case rel => exact ⟨i + 1, by omega, by go_num, HH5⟩
        case measure => simp [intOf]; omega
    · obtain rfl : i = l.length := by omega
      obtain ⟨v, hLab, hFrom, hBel⟩ := hr.out
      rw [show fillAt n sm l l.length = fillD n sm l from rfl] at hLab
      have hDl : (fillD n sm l).S.length = n := fillAt_length ..
      obtain ⟨D, hD⟩ : ∃ D, fillD n sm l = D := ⟨_, rfl⟩
      have HD := Lib.hid hD
      rw [hD] at hLab hDl
      have HH := Lib.hid (And.intro hLab (And.intro hFrom hBel))
      have HDl := Lib.hid hDl
      clear hLab hFrom hBel hDl hr hD
      go_wp2_with (fail)
      obtain ⟨wo, rfl⟩ : ∃ wo : World, wo = wr := ⟨_, rfl⟩
      go_loopw [11, 12] (fun v11 v12 w5 => ∃ i : Nat, i ≤ n ∧ v12 = .int .i64 i ∧ Hid (w5.ownsRow 0 9 1 v11 i (strsOf ((List.range i).map fun j => D.read j))) ∧ Hid (∀ k, v11.ownBlock = some k → wo.heap.size ≤ k) ∧ Hid (Below wo.heap.size wo w5)) (fun _ v12 _ => n - (intOf v12).toNat)
      case atStart => exact ⟨0, Nat.zero_le _, rfl, World.ownsRow_nil _ _ _ _, fun k hk => by simp [Value.ownBlock] at hk, .refl _ _⟩
      case round =>
        obtain ⟨i, hi, rfl, ho, hf, hb⟩ := hrel
        by_cases hlt : i < n
        · have HT : Hid (strsOf ((List.range (i + 1)).map fun j => D.read j) = strsOf ((List.range i).map fun j => D.read j) ++ [.string (S (D.read i))]) := by
            unfold Hid strsOf
            rw [List.range_succ, List.map_append, List.map_append]
            rfl
          have hDi : i < D.S.length := by have := HDl.out; omega
          have HDi := Lib.hid hDi
          clear hDi
          go_wp2_with (first | (go_at_call 22; refine (dread_any d f m v D .idle i _ (HH.out.1.below hb.out).disk (HH.out.1.below hb.out).fuse).mono ?_; rw [doRead_ok HDi.out rfl]; rintro e w6 ⟨rfl, hb6⟩) | (
            at_builtin
            have n7 := alloc_new w6 (.cells #[.string (S (D.read i))] 9)
            have b7 := alloc_below w6 (.cells #[.string (S (D.read i))] 9)
            have b67 : Below _ _ (w6.alloc (.cells #[.string (S (D.read i))] 9)) := below_step b7 hb6 (Nat.le_refl _)
            have ho7 := row_keeps (S := fun _ => False) ho.out (.of_below b67) (fun _ _ => id)
            obtain ⟨v', w8, hrun, hown, hgr, hat⟩ := append_run (P := Try.prog) _ 25 25 9 (.string ⟨#[]⟩) 1 16 Try.underlying25 (by kernel_rfl) rfl (by decide) u11 i _ ho7
              ⟨w6.heap.size, 0, none⟩ 1 1 [.string (S (D.read i))] rfl (fun j u hu => by rw [cell_at n7, Nat.zero_add]; simpa using hu) (fun u hu => by simp at hu; subst hu; rfl) (by unfold maxLen; omega) (by omega)
            obtain ⟨A', cap', rfl⟩ := ownsRow_is hown
            have HB8 := Lib.hid (grown_below (below_step b67 hb.out (Nat.le_refl _)) hgr (Nat.le_trans hb.out.size b67.size) hf.out)
            have HF8 : Hid (∀ k, (Value.slice A' (i + 1) cap').ownBlock = some k → wo.heap.size ≤ k) := fun k hk => by
              rcases hat with hat | hat
              · exact hf.out k (hat.symm.trans hk)
              · rw [hat] at hk
                injection hk with hk
                have h1 := hb.out.size
                have h2 := b67.size
                omega
            have HO8 := Lib.hid hown
            refine wpList_append_eq rfl (.tmp 72) (.tmp 74) 25 rfl _ _ rfl rfl _ _ hrun ?_
            clear hrun n7 b7 hgr hat hown b67 hb6 ho7))
          go_roundw
          case rel => exact ⟨i + 1, by omega, by go_num, by rw [HT.out]; exact HO8, HF8, HB8⟩
          case measure => simp [intOf]; omega
        · obtain rfl : i = n := by omega
          go_wp2
          go_ret2
          refine ⟨d, f, m, v, u11, rfl, ?_, HH.out.2.1, below_step hb.out HH.out.2.2 (Nat.le_refl _), ?_, fun k hk => Nat.le_trans HH.out.2.2.size (hf.out k hk), fun k hk ho' => ?_⟩
          · rw [HD.out]
            exact HH.out.1.below hb.out
          · rw [HD.out]
            exact ho.out
          · have h1 := hf.out k hk
            have h2 := HH.out.1.lt ho'
            omega
end Go.Proofs.Ytjpelmjocdodcaa
