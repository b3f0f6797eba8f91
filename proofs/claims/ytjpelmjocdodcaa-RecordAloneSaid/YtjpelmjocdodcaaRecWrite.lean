/- sacristanlaw06.write: sectors written one after another. -/
import Derived.Test.YtjpelmjocdodcaaRecWrite0
import Derived.Test.YtjpelmjocdodcaaEqStrs0
namespace Go.Proofs.Ytjpelmjocdodcaa
open Go.RowKit Go.ChangeMaps

set_option maxRecDepth 100000 in
set_option maxHeartbeats 2000000 in
theorem rwrite_any (w0 w : World) (d f m : Nat) (v : Value) (D : Dk) (rs : List (Value × List (List UInt8))) (j : Nat) (u : Value) (L : List (List UInt8)) (h : Hall w0 w [⟨d, f, m, v, D, .idle⟩] rs) (hj : rs[j]? = some (u, L)) (a : Nat) (hlen : a + L.length ≤ D.S.length) (h80 : ∀ s ∈ L, s.length = 80) (hP : D.P.length + L.length ≤ 1000000) :
    Calls Try.prog 45 #[.pointer (some ⟨d, 0, none⟩), .int .i64 a, u] w fun e w' => e = .returned (.bool true) ∧ ∃ v', Hall w0 w' [⟨d, f, m, v', D.puts a L, .idle⟩] rs := by
  obtain ⟨A, cap, hu⟩ := ownsRow_is (h.row j _ hj)
  dsimp only at hu
  subst hu
  have hok := (h.lab 0 _ rfl).disk.ok
  unfold Dk.Ok at hok
  obtain ⟨hl1, hl2, -, -⟩ := hok
  have H0 : Hid (∃ v', Hall w0 w [⟨d, f, m, v', D.puts a (L.take 0), .idle⟩] rs) := ⟨v, by rw [List.take_zero, puts_nil]; exact h⟩
  have H80 := Lib.hid h80
  have HJ := Lib.hid hj
  have HP := Lib.hid hP
  have HLEN := Lib.hid hlen
  clear h80 hj hP h
  go_enter Try.func45, Try.ntmps45
  go_wp2_with (fail)
  go_loopw [7] (fun v7 wr => ∃ i : Nat, i ≤ L.length ∧ v7 = .int .i64 i ∧ Hid (∃ v', Hall w0 wr [⟨d, f, m, v', D.puts a (L.take i), .idle⟩] rs)) (fun v7 _ => L.length - (intOf v7).toNat)
  case atStart => exact ⟨0, Nat.zero_le _, rfl, H0⟩
  case round =>
    obtain ⟨i, hi, rfl, hr⟩ := hrel
    by_cases hlt : i < L.length
    · obtain ⟨v', hH⟩ := hr.out
      obtain ⟨g, cap2, hu, c, c'⟩ := str_at' (hH.row j _ HJ.out) rfl hlt
      simp only [Value.slice.injEq] at hu
      obtain ⟨rfl, -, rfl⟩ := hu
      have hs : (secAt L i).length = 80 := by
        unfold secAt
        rw [List.getD_eq_getElem?_getD, List.getElem?_eq_getElem hlt]
        exact H80.out _ (List.getElem_mem hlt)
      have hw := dwrite_any d f m v' (D.puts a (L.take i)) .idle ((a + i : Nat) : Int) (secAt L i) wr (hH.lab 0 _ rfl).disk (hH.lab 0 _ rfl).fuse (by
        have := HP.out
        show (D.P ++ wputs a (L.take i)).length ≤ 1000000
        rw [List.length_append, wputs_len, List.length_take]; omega)
      rw [doWrite_ok (D := D.puts a (L.take i)) (show a + i < D.S.length by omega) hs] at hw
      dsimp only at hw
      rw [Int.natCast_add] at hw
      have hai : (a : Int) + (i : Int) ≤ 65536 := by omega
      have HH := Lib.hid hH
      have HPS := Lib.hid (show D.puts a (L.take (i + 1)) = (D.puts a (L.take i)).write (a + i) (secAt L i) from puts_succ D a L hlt)
      clear hH hr hs
      go_wp2_with (fail)
      refine hw.mono ?_
      rintro e w3 ⟨rfl, ha⟩
      obtain ⟨v3, h3⟩ := HH.out.after 0 rfl ha
      have H3 : Hid (∃ v', Hall w0 w3 [⟨d, f, m, v', D.puts a (L.take (i + 1)), .idle⟩] rs) := ⟨v3, by rw [HPS.out]; exact h3⟩
      clear h3 ha hw c c' HH HPS
      go_wp2_with (fail)
      go_roundw
      case rel => exact ⟨i + 1, hlt, by go_num, H3⟩
      case measure => simp [intOf]; omega
    · obtain rfl : i = L.length := by omega
      have hr2 := hr.out
      rw [List.take_length] at hr2
      go_wp2
      go_ret
      exact ⟨rfl, hr2⟩
end Go.Proofs.Ytjpelmjocdodcaa
