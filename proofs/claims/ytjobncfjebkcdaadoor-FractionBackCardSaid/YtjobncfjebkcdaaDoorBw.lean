/- The walks of strings.Cut (at one byte), strconv.Atoi (both ends) and Parse. -/
import Derived.Test.YtjobncfjebkcdaaDoorBp
import Derived.Test.YtjobncfjebkcdaaDoorCx
import Derived.Test.YtjobncfjebkcdaaDoorFv
import Derived.Deep.RegionHeld3
namespace Go.Proofs.YtjobncfjebkcdaaDoor
open Go Go.RowKit Go.Shelf
set_option linter.unusedSimpArgs false

theorem index1 (w : World) (s : ByteArray) : Calls Tryd.prog 57 #[.string s, .string ⟨#[47]⟩] w fun e w' => e = .returned (.int .i64 (Lib.indexB s ⟨#[47]⟩)) ∧ w' = w :=
  (stringslite_Index_one s 47 w).mono fun e w' h => ⟨by rw [h.1]; show _ = Ending.returned (.int .i64 (Lib.index s.data.toList [47])); rw [Lib.index_one], h.2⟩
def cutV (s : ByteArray) : Value := .tuple #[.string ⟨(Lib.cut s.data.toList [47]).1.toArray⟩, .string ⟨(Lib.cut s.data.toList [47]).2.1.toArray⟩, .bool (Lib.cut s.data.toList [47]).2.2]

set_option maxHeartbeats 4000000 in
set_option maxRecDepth 100000 in
theorem lcut_any (w : World) (s : ByteArray) (hs : s.size < 4294967281) : Calls Tryd.prog 52 #[.string s, .string ⟨#[47]⟩] w (OutB w (cutV s)) := by
  have HC := Lib.hid (index1 w s)
  rcases Lib.indexB_cases s ⟨#[47]⟩ with hix | ⟨i, hix, hroom⟩
  · obtain ⟨e1, e2, e3⟩ := Lib.cutB_miss s ⟨#[47]⟩ hix
    have he : cutV s = .tuple #[.string s, .string ByteArray.empty, .bool false] := by
      unfold cutV
      rw [show ([47] : List UInt8) = (⟨#[47]⟩ : ByteArray).data.toList from rfl, e1, e2, e3]
    rw [he]
    rw [hix] at HC
    clear e1 e2 e3 hix he
    go_enter Tryd.func52, Tryd.ntmps52
    go_wp2_with fail
    refine HC.out.mono ?_
    rintro e w1 ⟨rfl, rfl⟩
    go_wp2_with fail
    go_ret3
    exact ⟨rfl, Below.refl _ _⟩
  · obtain ⟨e1, e2, e3⟩ := Lib.cutB_hit s ⟨#[47]⟩ i hix
    have hr : i + 1 ≤ s.size := hroom
    have he : cutV s = .tuple #[.string (s.extract 0 i), .string (s.extract (i + 1) s.size), .bool true] := by
      unfold cutV
      rw [show ([47] : List UInt8) = (⟨#[47]⟩ : ByteArray).data.toList from rfl, e1, e2, e3]
      rfl
    rw [he]
    rw [hix] at HC
    have c1 : (0 : Int) ≤ (i : Int) := by omega
    have c2 : (i : Int) ≤ (s.size : Int) := by omega
    have c3 : (0 : Int) ≤ (i : Int) + 1 := by omega
    have c4 : (i : Int) + 1 ≤ (s.size : Int) := by omega
    have t0 : decide ((0 : Int) ≤ (i : Int)) = true := by simp
    clear e1 e2 e3 hix he hroom
    go_enter Tryd.func52, Tryd.ntmps52
    go_wp2_with fail
    refine HC.out.mono ?_
    rintro e w1 ⟨rfl, rfl⟩
    go_wp2_with fail
    go_region_o
    go_wp2_with fail
    go_ret3
    exact ⟨rfl, by first | exact Below.refl _ _ | exact (Below.refl _ _).drew⟩
set_option maxHeartbeats 4000000 in
set_option maxRecDepth 100000 in
theorem cut_any (w : World) (s : ByteArray) (hs : s.size < 4294967281) : Calls Tryd.prog 47 #[.string s, .string ⟨#[47]⟩] w (OutB w (cutV s)) := by
  have HC := Lib.hid (lcut_any w s hs)
  unfold cutV at *
  generalize (⟨(Lib.cut s.data.toList [47]).1.toArray⟩ : ByteArray) = a at *
  generalize (⟨(Lib.cut s.data.toList [47]).2.1.toArray⟩ : ByteArray) = b at *
  generalize (Lib.cut s.data.toList [47]).2.2 = c at *
  clear hs
  go_enter Tryd.func47, Tryd.ntmps47
  go_wp2_with fail
  refine HC.out.mono ?_
  rintro e w1 ⟨rfl, hb⟩
  have HB := Lib.hid hb
  clear hb
  go_wp2_with fail
  go_ret3
  exact ⟨rfl, HB.out⟩

/-- the two errors that Atoi wraps -/
def Er (w : World) : Prop := (∃ tp p, w.cell? ⟨1, 0, none⟩ = some (.iface tp p)) ∧ ∃ tp p, w.cell? ⟨2, 0, none⟩ = some (.iface tp p)
theorem Er.below {w w' : World} (h : Er w) (hb : Below w.heap.size w w') : Er w' := by
  obtain ⟨⟨t1, p1, h1⟩, t2, p2, h2⟩ := h
  exact ⟨⟨t1, p1, (hb.cell (p := ⟨1, 0, none⟩) (Lib.lt_of_cell h1)).trans h1⟩, t2, p2, (hb.cell (p := ⟨2, 0, none⟩) (Lib.lt_of_cell h2)).trans h2⟩
def AtoiP (w : World) (l : List UInt8) (e : Ending) (w' : World) : Prop :=
  Below w.heap.size w w' ∧ ((∃ n, Lib.atoiAll l = .ok n ∧ e = .returned (.tuple #[.int .i64 n, .nilIface])) ∨ ((∀ n, Lib.atoiAll l ≠ .ok n) ∧ ∃ n t p, I64 n ∧ e = .returned (.tuple #[.int .i64 n, .iface t p])))
theorem atoi_any (w : World) (s : ByteArray) (hs : s.size ≤ 4294967281) (he : Er w) : Calls Tryd.prog 48 #[.string s] w (AtoiP w s.data.toList) := by
  obtain ⟨⟨t1, p1, h1⟩, t2, p2, h2⟩ := he
  rcases ha : Lib.atoiAll s.data.toList with n | _ | _
  · refine (strconv_Atoi_ok s (by omega) n ha w).mono fun e w' h => ⟨?_, .inl ⟨n, ha, h.1⟩⟩
    rcases h.2 with rfl | ⟨t, rfl⟩
    · exact Below.refl _ _
    · exact Lib.bytesWorld_below _ _ _
  · refine (strconv_Atoi_syntax s (by omega) ha _ w h1 (.inr ⟨_, _, rfl⟩)).mono fun e w' h => ?_
    obtain ⟨N, he, _, _, hb⟩ := h
    exact ⟨hb, .inr ⟨(by rw [ha]; intro n hn; cases hn), 0, _, _, (by unfold I64; omega), he⟩⟩
  · refine (strconv_Atoi_range s (by omega) ha _ w h2 (.inr ⟨_, _, rfl⟩)).mono fun e w' h => ?_
    obtain ⟨N, he, _, _, hb⟩ := h
    exact ⟨hb, .inr ⟨(by rw [ha]; intro n hn; cases hn), _, _, _, Lib.atoiSat_bounds _, he⟩⟩
end Go.Proofs.YtjobncfjebkcdaaDoor
