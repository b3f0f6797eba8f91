/- A parameter that is a slice of the records of RecordReads. sacristanlaw06.lay: records are written to both disks. -/
import Derived.Test.YtjpelmjocdodcaaLab
import Derived.Deep.Slices
import Derived.Deep.Fields
import Derived.ChangeSame
import Derived.SizedLaws
import Derived.Test.YtjpelmjocdodcaaBothSame
import Derived.Test.YtjpelmjocdodcaaRefSec
import Derived.Test.YtjpelmjocdodcaaRecWrite
namespace Go.Proofs.Ytjpelmjocdodcaa
open Go.RowKit Go.ChangeShapes Go.WideShapes Go.Deep

theorem cells_rput : Try.prog.cellsOf 93 = 6 := by kernel_rfl
structure RPut where
  at_ : Nat
  boot : Nat
  lsn : Nat
  kind : Nat
  data : List UInt8
  cut : Nat
deriving Inhabited
def RPutAt (w : World) (x : Addr) (p : RPut) : Prop :=
  p.at_ < 256 ∧ p.boot < 256 ∧ p.lsn < 256 ∧ p.kind < 256 ∧ p.cut < 256 ∧ w.cell? x = some (.int .u8 (p.at_ : Int)) ∧ w.cell? ⟨x.block, x.off + 1, none⟩ = some (.int .u8 (p.boot : Int)) ∧ w.cell? ⟨x.block, x.off + 2, none⟩ = some (.int .u8 (p.lsn : Int)) ∧ w.cell? ⟨x.block, x.off + 3, none⟩ = some (.int .u8 (p.kind : Int)) ∧
    w.cell? ⟨x.block, x.off + 4, none⟩ = some (.string (S p.data)) ∧ w.cell? ⟨x.block, x.off + 5, none⟩ = some (.int .u8 (p.cut : Int))
theorem u8_natq {n : Int} (h : (Lit.int .u8 n).wf = true) : ∃ k : Nat, n = (k : Int) ∧ k < 256 := by
  simp [Lit.wf, IntKind.min, IntKind.max, IntKind.signed, IntKind.bits] at h
  exact ⟨n.toNat, by omega, by omega⟩
theorem one_rput (w : World) {H : Type} {enc : TypeId × Value → H} {base : Nat} {spare : Nat → Bool} {held : Bool} {n b0 : Nat} {x : Addr} {cs : List Value} {d : DataW H} {ps : List MemPlace}
    (hc : w.cells? b0 x (Try.prog.cellsOf 93) = some cs) (ht : DataW.trod enc Try.prog w base spare held n 93 cs = some (d, ps)) : ∃ p : RPut, RPutAt w x p := by
  obtain ⟨_, hcl, hat⟩ := World.cells?_some hc
  rw [cells_rput] at hcl hat
  match cs, hcl with
  | [c0, c1, c2, c3, c4, c5], _ =>
    obtain ⟨ys, m, _, hx, _, hlen, hg⟩ := DataW.trod_struct Try.underlying93 ht
    have g0 := hg 0 _ rfl
    have g1 := hg 1 _ rfl
    have g2 := hg 2 _ rfl
    have g3 := hg 3 _ rfl
    have g4 := hg 4 _ rfl
    have g5 := hg 5 _ rfl
    match ys, hlen with
    | [y0, y1, y2, y3, y4, y5], _ =>
      have e5 : Try.prog.cellsOf 5 = 1 := by kernel_rfl
      have e9 : Try.prog.cellsOf 9 = 1 := by kernel_rfl
      simp [e5, e9] at g0 g1 g2 g3 g4 g5
      obtain ⟨n0, h0, _, wf0⟩ := DataW.trod_int Try.underlying5 g0
      obtain ⟨n1, h1, _, wf1⟩ := DataW.trod_int Try.underlying5 g1
      obtain ⟨n2, h2, _, wf2⟩ := DataW.trod_int Try.underlying5 g2
      obtain ⟨n3, h3, _, wf3⟩ := DataW.trod_int Try.underlying5 g3
      obtain ⟨s4, h4, _, _⟩ := DataW.trod_string Try.underlying9 g4
      obtain ⟨n5, h5, _, wf5⟩ := DataW.trod_int Try.underlying5 g5
      simp at h0 h1 h2 h3 h4 h5
      subst h0 h1 h2 h3 h4 h5
      obtain ⟨k0, rfl, r0⟩ := u8_natq wf0
      obtain ⟨k1, rfl, r1⟩ := u8_natq wf1
      obtain ⟨k2, rfl, r2⟩ := u8_natq wf2
      obtain ⟨k3, rfl, r3⟩ := u8_natq wf3
      obtain ⟨k5, rfl, r5⟩ := u8_natq wf5
      exact ⟨⟨k0, k1, k2, k3, s4.data.toList, k5⟩, r0, r1, r2, r3, r5, hat 0 (by decide), hat 1 (by decide), hat 2 (by decide), hat 3 (by decide), (hat 4 (by decide)).trans (congrArg (fun x => some (Value.string x)) (S_of _).symm), hat 5 (by decide)⟩
/-- The slice A holds the records l. -/
def RPutsAt (w : World) (A : Option Addr) (l : List RPut) : Prop := ∀ i (h : i < l.length), ∃ ad : Addr, A = some ad ∧ RPutAt w (ad.add (i * 6)) l[i]
theorem RPutsAt.below {w w' : World} {A : Option Addr} {l : List RPut} (h : RPutsAt w A l) (b : Below w.heap.size w w') : RPutsAt w' A l := fun i hi => by
  obtain ⟨ad, hA, h1, h2, h3, h4, h5, c0, c1, c2, c3, c4, c5⟩ := h i hi
  exact ⟨ad, hA, h1, h2, h3, h4, h5, below_cell b c0, below_cell b c1, below_cell b c2, below_cell b c3, below_cell b c4, below_cell b c5⟩
theorem open_rputs {H : Type} {enc : TypeId × Value → H} {w : World} {base : Nat} {spare : Nat → Bool} {held : Bool} {a : Option Addr} {len cap : Nat} {d : DataW H} {ps : List MemPlace}
    (h : DataW.Trod enc Try.prog w base spare held 91 (.slice a len cap) d ps) : ∃ l : List RPut, len = l.length ∧ RPutsAt w a l := by
  obtain ⟨fuel, hf⟩ := h
  rcases open_slice Try.underlying91 hf with ⟨hcs, _⟩ | ⟨x, ln, c, m, n, D, Pl, hcs, hb, hl, hm, hmm, hx, hi⟩
  · simp [Value.cells] at hcs
    obtain ⟨rfl, rfl, rfl⟩ := hcs
    exact ⟨[], rfl, fun i hi => absurd hi (by simp)⟩
  · simp [Value.cells] at hcs
    obtain ⟨rfl, rfl, rfl⟩ := hcs
    have hlm : len ≤ m := by rw [hmm]; split <;> omega
    have key : ∀ i, ∃ p : RPut, i < len → RPutAt w (x.add (i * 6)) p := fun i => by
      by_cases hil : i < len
      · obtain ⟨cs, hc, htr⟩ := hi i (by omega)
        obtain ⟨g, h1⟩ := one_rput w hc htr
        rw [cells_rput] at h1
        exact ⟨g, fun _ => h1⟩
      · exact ⟨default, fun h => absurd h hil⟩
    refine ⟨(List.range len).map fun i => Classical.choose (key i), by simp, fun i hi => ?_⟩
    have hil : i < len := by simpa using hi
    have h := Classical.choose_spec (key i) hil
    simp only [List.getElem_map, List.getElem_range]
    exact ⟨x, rfl, h⟩
end Go.Proofs.Ytjpelmjocdodcaa
namespace Go.Proofs.Ytjpelmjocdodcaa
open Go.RowKit Go.ChangeMaps

theorem RPutAt.below {w w' : World} {ad : Addr} {p : RPut} (h : RPutAt w ad p) (b : Below w.heap.size w w') : RPutAt w' ad p := by
  obtain ⟨h1, h2, h3, h4, h5, c0, c1, c2, c3, c4, c5⟩ := h
  exact ⟨h1, h2, h3, h4, h5, below_cell b c0, below_cell b c1, below_cell b c2, below_cell b c3, below_cell b c4, below_cell b c5⟩
theorem doWrite_len (D : Dk) (z : Fz) (i : Int) (s : List UInt8) : (doWrite D z i s).2.1.P.length ≤ D.P.length + 1 := by
  unfold doWrite
  split
  · split
    · split
      · show (D.P ++ [_]).length ≤ _; simp
      · exact Nat.le_succ _
    · exact Nat.le_succ _
  · exact Nat.le_succ _
/-- The row u is no part of either disk. -/
def OffRow (u : Value) (d f m : Nat) (v : Value) (r g sb : Nat) (pv : Value) : Prop := ∀ j, u.ownBlock = some j → ¬ Own d f m v j ∧ ¬ ROwn r g sb pv j
/-- A row of strings beside both disks. -/
structure RowOff (w : World) (u : Value) (L : List (List UInt8)) (d f m : Nat) (v : Value) (r g sb : Nat) (pv : Value) : Prop where
  row : w.ownsRow 0 9 1 u L.length (rstrs L)
  off : OffRow u d f m v r g sb pv
theorem RowOff.lt {w : World} {u : Value} {L : List (List UInt8)} {d f m : Nat} {v : Value} {r g sb : Nat} {pv : Value} (h : RowOff w u L d f m v r g sb pv) {j : Nat} (hj : u.ownBlock = some j) : j < w.heap.size := by
  rcases h.row.2 with ⟨rfl, _⟩ | ⟨q, cap, cur, rfl, hb, hg, r⟩
  · simp [Value.ownBlock] at hj
  · simp [Value.ownBlock] at hj
    subst hj
    exact (Array.getElem?_eq_some_iff.1 hg).1
theorem RowOff.below {w w' : World} {u : Value} {L : List (List UInt8)} {d f m : Nat} {v : Value} {r g sb : Nat} {pv : Value} (h : RowOff w u L d f m v r g sb pv) (b : Below w.heap.size w w') : RowOff w' u L d f m v r g sb pv :=
  ⟨row_keeps (S := fun _ => False) h.row (.of_below b) (fun _ _ => id), h.off⟩
theorem RowOff.dchange {w w' : World} {u : Value} {L : List (List UInt8)} {d f m : Nat} {v v' : Value} {r g sb : Nat} {pv : Value} (h : RowOff w u L d f m v r g sb pv) {S : Nat → Prop} (k : Keeps S w w') (hs : ∀ k, S k → Own d f m v k) (n : ∀ k, v'.ownBlock = some k → v.ownBlock = some k ∨ w.heap.size ≤ k) : RowOff w' u L d f m v' r g sb pv :=
  ⟨row_keeps h.row k (fun j hj e => (h.off j hj).1 (hs j e)), fun j hj => ⟨fun ho => by
    rcases own_new n ho with e | e
    · exact (h.off j hj).1 e
    · have := h.lt hj; omega, (h.off j hj).2⟩⟩
theorem RowOff.rchange {w w' : World} {u : Value} {L : List (List UInt8)} {d f m : Nat} {v : Value} {r g sb : Nat} {pv pv' : Value} (h : RowOff w u L d f m v r g sb pv) {S : Nat → Prop} (k : Keeps S w w') (hs : ∀ k, S k → ROwn r g sb pv k) (n : ∀ k, pv'.ownBlock = some k → pv.ownBlock = some k ∨ w.heap.size ≤ k) : RowOff w' u L d f m v r g sb pv' :=
  ⟨row_keeps h.row k (fun j hj e => (h.off j hj).2 (hs j e)), fun j hj => ⟨(h.off j hj).1, fun ho => by
    rcases rown_new n ho with e | e
    · exact (h.off j hj).2 e
    · have := h.lt hj; omega⟩⟩
set_option maxRecDepth 100000 in
set_option maxHeartbeats 8000000 in
theorem lay_any (w0 w : World) (x d f m : Nat) (v : Value) (r g sb : Nat) (pv : Value) (D : Dk) (z : Fz) (h : BothAt w0 w x d f m v r g sb pv D z D z) (hP : D.P.length ≤ 0) (A : Option Addr) (cap : Nat) (l : List RPut) (hp : RPutsAt w0 A l) (hl : l.length ≤ 20) (h400 : ∀ p ∈ l, p.data.length ≤ 400) :
    Calls Try.prog 48 #[.pointer (some ⟨x, 0, none⟩), .slice A l.length cap] w fun e w' => e = .returned (.bool true) ∧ ∃ v' pv' D' z', BothAt w0 w' x d f m v' r g sb pv' D' z' D' z' ∧ D'.P.length ≤ 2000 := by
  have HB0 : Hid (∃ v pv D z, BothAt w0 w x d f m v r g sb pv D z D z ∧ D.P.length ≤ 100 * 0) := ⟨_, _, _, _, h, by omega⟩
  have HPS := Lib.hid hp
  have H400 := Lib.hid h400
  clear h hp h400 hP
  go_enter Try.func48, Try.ntmps48
  go_wp2_with (fail)
  go_loopw [5] (fun v5 wr => ∃ i : Nat, i ≤ l.length ∧ v5 = .int .i64 i ∧ Hid (∃ v pv D z, BothAt w0 wr x d f m v r g sb pv D z D z ∧ D.P.length ≤ 100 * i)) (fun v5 _ => l.length - (intOf v5).toNat)
  case atStart => exact ⟨0, Nat.zero_le _, rfl, HB0.out⟩
  case round =>
    obtain ⟨i, hi, rfl, hr⟩ := hrel
    by_cases hlt : i < l.length
    · obtain ⟨v1, pv1, D1, z1, hB, hPl⟩ := hr.out
      have hdl := H400.out l[i] (List.getElem_mem hlt)
      obtain ⟨ad, rfl, ha, hb, hlsn, hk, hc, c0, c1, c2, c3, c4, c5⟩ := (HPS.out.below hB.bel) i hlt
      have HPI : Hid (RPutAt w0 (ad.add (i * 6)) l[i]) := by
        obtain ⟨ad', e, h'⟩ := HPS.out i hlt
        injection e with e
        subst e
        exact h'
      obtain ⟨⟨pa, pb, pl, pk, pd, pc⟩, hpe⟩ : ∃ p, l[i] = p := ⟨_, rfl⟩
      rw [hpe] at ha hb hlsn hk hc c0 c1 c2 c3 c4 c5 hdl HPI
      dsimp only at ha hb hlsn hk hc c0 c1 c2 c3 c4 c5 hdl
      have hil : i < 20 := by omega
      have HB1 := Lib.hid hB
      have HS : Hid (∀ W, Below wr.heap.size wr W → W.cell? ⟨(ad.add (i * 6)).block, (ad.add (i * 6)).off + 1, none⟩ = some (.int .u8 (pb : Int)) ∧ W.cell? ⟨(ad.add (i * 6)).block, (ad.add (i * 6)).off + 2, none⟩ = some (.int .u8 (pl : Int)) ∧ W.cell? ⟨(ad.add (i * 6)).block, (ad.add (i * 6)).off + 3, none⟩ = some (.int .u8 (pk : Int)) ∧ W.cell? ⟨(ad.add (i * 6)).block, (ad.add (i * 6)).off + 4, none⟩ = some (.string (S pd))) := fun W hW => ⟨below_cell hW c1, below_cell hW c2, below_cell hW c3, below_cell hW c4⟩
      have hsec := rsectors_any (pb : Int) (pl : Int) (pk : Int) (by omega) pd (by omega) wr.drew
      have hL94 := recSecs_le (pb : Int) (pl : Int) (pk : Int) pd
      obtain ⟨⟨L, er⟩, hLe⟩ : ∃ p, recSecs (pb : Int) (pl : Int) (pk : Int) pd = p := ⟨_, rfl⟩
      rw [hLe] at hsec hL94
      dsimp only at hsec hL94
      have HSEC := Lib.hid hsec
      clear hsec hLe hB hr hpe c0 c1 c2 c3 c4 c5
      go_upto_region 4 with (fail)
      have wb : IntKind.i64.wrap (pb : Int) = (pb : Int) := by rw [IntKind.wrap_i64]; omega
      have wl : IntKind.i64.wrap (pl : Int) = (pl : Int) := by rw [IntKind.wrap_i64]; omega
      refine wp_region_noPanic ?_
      go_region_held3 (fun W => W.cell? ⟨(ad.add (i * 6)).block, (ad.add (i * 6)).off + 1, none⟩ = some (.int .u8 (pb : Int)) ∧ W.cell? ⟨(ad.add (i * 6)).block, (ad.add (i * 6)).off + 2, none⟩ = some (.int .u8 (pl : Int)) ∧ W.cell? ⟨(ad.add (i * 6)).block, (ad.add (i * 6)).off + 3, none⟩ = some (.int .u8 (pk : Int)) ∧ W.cell? ⟨(ad.add (i * 6)).block, (ad.add (i * 6)).off + 4, none⟩ = some (.string (S pd)))
        (first | exact HS.out _ (Below.refl _ wr).drew | exact HS.out _ (below_step b2 (Below.refl _ wr).drew (Nat.le_refl _)))
        (first | (go_at_call 42; refine HSEC.out.mono ?_; rintro e w2 ⟨A2, cap2, rfl, o2, b2, f2⟩))
      refine NoPanic.normal ?_
      have hB2 := below_step b2 (Below.refl _ wr).drew (Nat.le_refl _)
      have HR2 : Hid (∃ v pv D z, BothAt w0 w2 x d f m v r g sb pv D z D z ∧ D.P.length ≤ 100 * i + 0 ∧ RowOff w2 (.slice A2 L.length cap2) L d f m v r g sb pv) := ⟨_, _, _, _, HB1.out.below hB2, by omega, o2, fun j hj => by
        have hj1 : wr.heap.size ≤ j := f2 j hj
        exact ⟨fun ho => by have := HB1.out.lab.lt ho; omega, fun ho => by have := HB1.out.rat.rlt HB1.out.rfz ho; omega⟩⟩
      clear hB2 o2 b2 f2 HB1 HS HSEC
      by_cases her : er = 0
      · subst her
        go_wp2_with (fail)
        obtain ⟨wo, rfl⟩ : ∃ wo : World, wo = wr := ⟨_, rfl⟩
        go_loopw [8] (fun v8 wr => ∃ k : Nat, k ≤ L.length ∧ v8 = .int .i64 k ∧ Hid (∃ v pv D z, BothAt w0 wr x d f m v r g sb pv D z D z ∧ D.P.length ≤ 100 * i + k ∧ RowOff wr (.slice A2 L.length cap2) L d f m v r g sb pv)) (fun v8 _ => L.length - (intOf v8).toNat)
        case atStart => exact ⟨0, Nat.zero_le _, rfl, HR2.out⟩
        case round =>
          obtain ⟨k, hk, rfl, hr⟩ := hrel
          have HR3 : Hid (∃ v pv D z, BothAt w0 wr x d f m v r g sb pv D z D z ∧ D.P.length ≤ 100 * (i + 1)) := by
            obtain ⟨v1, pv1, D1, z1, hB, hPl, -⟩ := hr.out
            exact ⟨_, _, _, _, hB, by omega⟩
          by_cases hkl : k < L.length
          · obtain ⟨v1, pv1, D1, z1, hB, hPl, hO⟩ := hr.out
            have c5 := (HPI.out.below hB.bel).2.2.2.2.2.2.2.2.2.2
            have c0 := (HPI.out.below hB.bel).2.2.2.2.2.1
            dsimp only at c0 c5
            have wa : IntKind.i64.wrap (pa : Int) = (pa : Int) := by rw [IntKind.wrap_i64]; omega
            have wc : IntKind.i64.wrap (pc : Int) = (pc : Int) := by rw [IntKind.wrap_i64]; omega
            by_cases hcut : pc = 0 ∨ k < pc
            · obtain ⟨g1, rfl, -, -⟩ := rstr_at hO.row rfl hkl
              have HB1 := Lib.hid hB
              have HO1 := Lib.hid hO
              have hkL : (k : Int) ≤ 94 := by omega
              clear hB hO hr
              by_cases hc0 : pc = 0
              · subst hc0
                go_upto_region 10 with (fail)
                have HBd := Lib.hid (HB1.out.below (Below.refl _ wr).drew)
                have HOd := Lib.hid (HO1.out.below (Below.refl _ wr).drew)
                obtain ⟨s, hs⟩ : ∃ s, L.getD k [] = s := ⟨_, rfl⟩
                have hw1 := dwrite_any d f m v1 D1 z1 ((pa : Int) + (k : Int)) s wr.drew HBd.out.lab.disk HBd.out.lab.fuse (by omega)
                have hw2 : ∀ W v' D' z', BothAt w0 W x d f m v' r g sb pv1 D' z' D1 z1 → Calls Try.prog 61 #[.pointer (some ⟨r, 0, none⟩), .int .i64 ((pa : Int) + (k : Int)), .string (S s)] W fun e w' => e = .returned (.int .i64 (doWrite D1 z1 ((pa : Int) + (k : Int)) s).1) ∧ RAfter W w' r g sb pv1 (doWrite D1 z1 ((pa : Int) + (k : Int)) s).2.1 (doWrite D1 z1 ((pa : Int) + (k : Int)) s).2.2 := fun W v' D' z' h => rdwrite_any r g sb pv1 D1 z1 _ s W h.rat h.rfz (by omega)
                have hlen := doWrite_len D1 z1 ((pa : Int) + (k : Int)) s
                obtain ⟨⟨s1, D2, z2⟩, hsv⟩ : ∃ p, doWrite D1 z1 ((pa : Int) + (k : Int)) s = p := ⟨_, rfl⟩
                rw [hsv] at hw1 hw2 hlen
                dsimp only at hw1 hw2 hlen
                have HS1 := Lib.hid hw1
                have HS2 := Lib.hid hw2
                have HS : Hid (∀ (W : World) (v' pv' : Value) (D' : Dk) (z' : Fz) (E' : Dk) (y' : Fz), BothAt w0 W x d f m v' r g sb pv' D' z' E' y' → RowOff W (.slice (some ⟨g1, 0, none⟩) L.length cap2) L d f m v' r g sb pv' → W.cell? ⟨x, 1, none⟩ = some (.pointer (some ⟨d, 0, none⟩)) ∧ W.cell? ⟨x, 3, none⟩ = some (.pointer (some ⟨r, 0, none⟩)) ∧ W.cell? (Addr.add ⟨g1, 0, none⟩ k) = some (.string (S s)) ∧ W.cell? ⟨g1, k, none⟩ = some (.string (S s))) := fun W v' pv' D' z' E' y' h ho => by
                  obtain ⟨g2, e, y0, y1⟩ := rstr_at ho.row rfl hkl
                  simp only [Option.some.injEq, Addr.mk.injEq, and_true] at e
                  subst e
                  rw [hs] at y0 y1
                  exact ⟨h.x1, h.x3, y0, y1⟩
                clear hw1 hw2 hsv hs HO1 HB1 c0 c5
                refine wp_region_noPanic ?_
                go_region_held3 (fun W => W.cell? ⟨x, 1, none⟩ = some (.pointer (some ⟨d, 0, none⟩)) ∧ W.cell? ⟨x, 3, none⟩ = some (.pointer (some ⟨r, 0, none⟩)) ∧ W.cell? (Addr.add ⟨g1, 0, none⟩ k) = some (.string (S s)) ∧ W.cell? ⟨g1, k, none⟩ = some (.string (S s)))
                  (first | exact HS.out _ _ _ _ _ _ _ HBd.out HOd.out | exact HS.out _ _ _ _ _ _ _ HB4.out HO4.out | exact HS.out _ _ _ _ _ _ _ (HB4.out.rchange h5 z5 k5 (fun _ h => h) n5) (HO4.out.rchange k5 (fun _ h => h) n5))
                  (first | (go_at_call 61; refine (HS2.out _ _ _ _ HB4.out).mono ?_; rintro e w5 ⟨rfl, ha5⟩; obtain ⟨pv5, h5, z5, k5, n5⟩ := ha5) | (go_at_call 19; refine HS1.out.mono ?_; rintro e w4 ⟨rfl, ha4⟩; obtain ⟨v4, h4, k4, n4⟩ := ha4.lab; have HB4 := Lib.hid (HBd.out.dchange h4 k4 (fun _ h => h) n4); have HO4 := Lib.hid (HOd.out.dchange k4 (fun _ h => h) n4)))
                refine NoPanic.normal ?_
                have HE : Hid (BothAt w0 w5 x d f m v4 r g sb pv5 D2 z2 D2 z2 ∧ D2.P.length ≤ 100 * i + (k + 1) ∧ RowOff w5 (.slice (some ⟨g1, 0, none⟩) L.length cap2) L d f m v4 r g sb pv5) := ⟨HB4.out.rchange h5 z5 k5 (fun _ h => h) n5, by omega, HO4.out.rchange k5 (fun _ h => h) n5⟩
                clear h4 k4 n4 h5 z5 k5 n5 HB4 HO4 HS HS1 HS2 HBd HOd ha4
                go_wp2_with (fail)
                go_roundw
                case rel => exact ⟨k + 1, hkl, by go_num, _, _, _, _, HE.out.1, HE.out.2.1, HE.out.2.2⟩
                case measure => simp [intOf]; omega
              · have hc0' : ¬ (pc : Int) = 0 := by omega
                have hck : (k : Int) < (pc : Int) := by omega
                go_upto_region 10 with (fail)
                have HBd := Lib.hid (HB1.out.below (Below.refl _ wr).drew)
                have HOd := Lib.hid (HO1.out.below (Below.refl _ wr).drew)
                obtain ⟨s, hs⟩ : ∃ s, L.getD k [] = s := ⟨_, rfl⟩
                have hw1 := dwrite_any d f m v1 D1 z1 ((pa : Int) + (k : Int)) s wr.drew HBd.out.lab.disk HBd.out.lab.fuse (by omega)
                have hw2 : ∀ W v' D' z', BothAt w0 W x d f m v' r g sb pv1 D' z' D1 z1 → Calls Try.prog 61 #[.pointer (some ⟨r, 0, none⟩), .int .i64 ((pa : Int) + (k : Int)), .string (S s)] W fun e w' => e = .returned (.int .i64 (doWrite D1 z1 ((pa : Int) + (k : Int)) s).1) ∧ RAfter W w' r g sb pv1 (doWrite D1 z1 ((pa : Int) + (k : Int)) s).2.1 (doWrite D1 z1 ((pa : Int) + (k : Int)) s).2.2 := fun W v' D' z' h => rdwrite_any r g sb pv1 D1 z1 _ s W h.rat h.rfz (by omega)
                have hlen := doWrite_len D1 z1 ((pa : Int) + (k : Int)) s
                obtain ⟨⟨s1, D2, z2⟩, hsv⟩ : ∃ p, doWrite D1 z1 ((pa : Int) + (k : Int)) s = p := ⟨_, rfl⟩
                rw [hsv] at hw1 hw2 hlen
                dsimp only at hw1 hw2 hlen
                have HS1 := Lib.hid hw1
                have HS2 := Lib.hid hw2
                have HS : Hid (∀ (W : World) (v' pv' : Value) (D' : Dk) (z' : Fz) (E' : Dk) (y' : Fz), BothAt w0 W x d f m v' r g sb pv' D' z' E' y' → RowOff W (.slice (some ⟨g1, 0, none⟩) L.length cap2) L d f m v' r g sb pv' → W.cell? ⟨x, 1, none⟩ = some (.pointer (some ⟨d, 0, none⟩)) ∧ W.cell? ⟨x, 3, none⟩ = some (.pointer (some ⟨r, 0, none⟩)) ∧ W.cell? (Addr.add ⟨g1, 0, none⟩ k) = some (.string (S s)) ∧ W.cell? ⟨g1, k, none⟩ = some (.string (S s))) := fun W v' pv' D' z' E' y' h ho => by
                  obtain ⟨g2, e, y0, y1⟩ := rstr_at ho.row rfl hkl
                  simp only [Option.some.injEq, Addr.mk.injEq, and_true] at e
                  subst e
                  rw [hs] at y0 y1
                  exact ⟨h.x1, h.x3, y0, y1⟩
                clear hw1 hw2 hsv hs HO1 HB1 c0 c5
                refine wp_region_noPanic ?_
                go_region_held3 (fun W => W.cell? ⟨x, 1, none⟩ = some (.pointer (some ⟨d, 0, none⟩)) ∧ W.cell? ⟨x, 3, none⟩ = some (.pointer (some ⟨r, 0, none⟩)) ∧ W.cell? (Addr.add ⟨g1, 0, none⟩ k) = some (.string (S s)) ∧ W.cell? ⟨g1, k, none⟩ = some (.string (S s)))
                  (first | exact HS.out _ _ _ _ _ _ _ HBd.out HOd.out | exact HS.out _ _ _ _ _ _ _ HB4.out HO4.out | exact HS.out _ _ _ _ _ _ _ (HB4.out.rchange h5 z5 k5 (fun _ h => h) n5) (HO4.out.rchange k5 (fun _ h => h) n5))
                  (first | (go_at_call 61; refine (HS2.out _ _ _ _ HB4.out).mono ?_; rintro e w5 ⟨rfl, ha5⟩; obtain ⟨pv5, h5, z5, k5, n5⟩ := ha5) | (go_at_call 19; refine HS1.out.mono ?_; rintro e w4 ⟨rfl, ha4⟩; obtain ⟨v4, h4, k4, n4⟩ := ha4.lab; have HB4 := Lib.hid (HBd.out.dchange h4 k4 (fun _ h => h) n4); have HO4 := Lib.hid (HOd.out.dchange k4 (fun _ h => h) n4)))
                refine NoPanic.normal ?_
                have HE : Hid (BothAt w0 w5 x d f m v4 r g sb pv5 D2 z2 D2 z2 ∧ D2.P.length ≤ 100 * i + (k + 1) ∧ RowOff w5 (.slice (some ⟨g1, 0, none⟩) L.length cap2) L d f m v4 r g sb pv5) := ⟨HB4.out.rchange h5 z5 k5 (fun _ h => h) n5, by omega, HO4.out.rchange k5 (fun _ h => h) n5⟩
                clear h4 k4 n4 h5 z5 k5 n5 HB4 HO4 HS HS1 HS2 HBd HOd ha4
                go_wp2_with (fail)
                go_roundw
                case rel => exact ⟨k + 1, hkl, by go_num, _, _, _, _, HE.out.1, HE.out.2.1, HE.out.2.2⟩
                case measure => simp [intOf]; omega
            · have hc0 : ¬ (pc : Int) = 0 := by omega
              have hck : ¬ (k : Int) < (pc : Int) := by omega
              clear hr hB hO
              go_wp2_with (fail)
              go_roundw
              case rel => exact ⟨i + 1, hlt, by go_num, HR3.out⟩
              case measure => simp [intOf]; omega
          · obtain rfl : k = L.length := by omega
            clear hr
            go_wp2_with (fail)
            go_roundw
            case rel => exact ⟨i + 1, hlt, by go_num, HR3.out⟩
            case measure => simp [intOf]; omega
      · have HR3 : Hid (∃ v pv D z, BothAt w0 w2 x d f m v r g sb pv D z D z ∧ D.P.length ≤ 100 * (i + 1)) := by
          obtain ⟨v1, pv1, D1, z1, hB, hPl, -⟩ := HR2.out
          exact ⟨_, _, _, _, hB, by omega⟩
        clear HR2
        go_wp2_with (fail)
        go_roundw
        case rel => exact ⟨i + 1, hlt, by go_num, HR3.out⟩
        case measure => simp [intOf]; omega
    · obtain rfl : i = l.length := by omega
      have HE : Hid (∃ v' pv' D' z', BothAt w0 wr x d f m v' r g sb pv' D' z' D' z' ∧ D'.P.length ≤ 2000) := by
        obtain ⟨v1, pv1, D1, z1, hB, hPl⟩ := hr.out
        exact ⟨_, _, _, _, hB, by omega⟩
      clear hr
      go_wp2_with (fail)
      go_ret
      exact ⟨rfl, HE.out⟩
end Go.Proofs.Ytjpelmjocdodcaa
