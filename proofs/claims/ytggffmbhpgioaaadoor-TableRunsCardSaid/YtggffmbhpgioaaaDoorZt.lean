/- Operations in memory; the walk of short. -/
import Derived.Test.YtggffmbhpgioaaaDoorZo
import Derived.Test.YtggffmbhpgioaaaDoorZr
namespace Go.Proofs.YtggffmbhpgioaaaDoor
open Go Go.RowKit Go.Shelf
set_option linter.unusedSimpArgs false

/-- an operation -/
structure Op1 where
  (kind : Int) (key : ByteArray) (d : Int) (b : Bd)
def opCells (x : Op1) : List Value := [.int .i64 x.kind, .string x.key, .int .i64 x.d, .int .i64 x.b.a, .int .i64 x.b.b, .int .i64 x.b.c, .int .i64 x.b.e]
/-- an operation lies at an address -/
def OpAt (w : World) (g o : Nat) (x : Op1) : Prop :=
  w.cell? ⟨g, o, none⟩ = some (.int .i64 x.kind) ∧ w.cell? ⟨g, o + 1, none⟩ = some (.string x.key) ∧ w.cell? ⟨g, o + 2, none⟩ = some (.int .i64 x.d) ∧
    w.cell? ⟨g, o + 3, none⟩ = some (.int .i64 x.b.a) ∧ w.cell? ⟨g, o + 4, none⟩ = some (.int .i64 x.b.b) ∧ w.cell? ⟨g, o + 5, none⟩ = some (.int .i64 x.b.c) ∧ w.cell? ⟨g, o + 6, none⟩ = some (.int .i64 x.b.e)
/-- a slice of operations in memory -/
def OpS (w : World) (A : Option Addr) (l : List Op1) : Prop :=
  0 < l.length → ∃ b o, A = some ⟨b, o, none⟩ ∧ b < w.heap.size ∧ ∀ (i : Nat) (x : Op1), l[i]? = some x → OpAt w b (o + i * 7) x
theorem OpAt.below {w w' : World} {g o B : Nat} {x : Op1} (h : OpAt w g o x) (hb : Below B w w') (hg : g < B) : OpAt w' g o x := by
  obtain ⟨h0, h1, h2, h3, h4, h5, h6⟩ := h
  refine ⟨?_, ?_, ?_, ?_, ?_, ?_, ?_⟩ <;> (rw [hb.cell (by exact hg)]; assumption)
theorem OpS.below {w w' : World} {A : Option Addr} {l : List Op1} {B : Nat} (h : OpS w A l) (hb : Below B w w') (hB : w.heap.size ≤ B) : OpS w' A l := by
  intro hn
  obtain ⟨b, o, hA, hlt, hc⟩ := h hn
  exact ⟨b, o, hA, Nat.lt_of_lt_of_le hlt hb.size, fun i x hx => (hc i x hx).below hb (Nat.lt_of_lt_of_le hlt hB)⟩

def shortB (l : List Op1) : Bool := l.all (fun x => decide (x.key.size ≤ 60)) && decide (l.length ≤ 80)
theorem short_bad {l : List Op1} {k : Nat} {x : Op1} (hx : l[k]? = some x) (h : 60 < x.key.size) : shortB l = false := by
  unfold shortB
  rw [Bool.and_eq_false_iff]
  refine .inl (List.all_eq_false.2 ⟨x, List.mem_of_getElem? hx, by simp; omega⟩)
def okTo (l : List Op1) (k : Nat) : Prop := ∀ x ∈ l.take k, x.key.size ≤ 60
set_option maxHeartbeats 2000000 in
set_option maxRecDepth 100000 in
theorem short_any (w : World) (A : Option Addr) (ca : Nat) (l : List Op1) (hl : l.length ≤ 9223372036854775807) (ha : OpS w A l) :
    Calls Tryd.prog 14 #[.slice A l.length ca] w (OutS w (.bool (shortB l))) := by
  have HA := Lib.hid ha
  clear ha
  go_enter Tryd.func14, Tryd.ntmps14
  go_wp2_with fail
  go_loop [3] (fun i => ∃ k : Nat, k ≤ l.length ∧ i = .int .i64 k ∧ Hid (okTo l k)) (fun i => l.length - (intOf i).toNat)
  case atStart => exact ⟨0, Nat.zero_le _, rfl, by intro x hx; simp at hx⟩
  case round =>
    obtain ⟨k, hk, rfl, HO⟩ := hrel
    by_cases hlk : k < l.length
    rotate_left
    · obtain rfl : k = l.length := by omega
      have HS : Hid (shortB l = decide (l.length ≤ 80)) := by
        have h := HO.out
        unfold okTo at h
        rw [List.take_length] at h
        unfold Hid shortB
        rw [List.all_eq_true.2 (fun x hx => by simpa using h x hx), Bool.true_and]
      by_cases h80 : l.length ≤ 80
      · have d : decide ((l.length : Int) ≤ 80) = true := by simp; omega
        go_wp2_with fail
        go_ret
        exact ⟨by rw [HS.out]; simp [h80], rfl⟩
      · have d : decide ((l.length : Int) ≤ 80) = false := by simp; omega
        go_wp2_with fail
        go_ret
        exact ⟨by rw [HS.out]; simp [h80], rfl⟩
    obtain ⟨x, hx⟩ : ∃ x, l[k]? = some x := ⟨_, List.getElem?_eq_getElem hlk⟩
    obtain ⟨b, o, rfl, _, hc⟩ := HA.out (by omega)
    obtain ⟨f0, f1, f2, f3, f4, f5, f6⟩ := hc k x hx
    have HX := Lib.hid hx
    clear hx hc f2 f3 f4 f5 f6
    by_cases hbad : 60 < x.key.size
    · have d : (60 : Int) < (x.key.size : Int) := by omega
      go_wp2_with fail
      go_ret
      exact ⟨by rw [short_bad HX.out (by omega)]; rfl, rfl⟩
    · have d : (x.key.size : Int) ≤ 60 := by omega
      have HN : Hid (okTo l (k + 1)) := by
        intro y hy
        rw [List.take_succ_eq_append_getElem hlk, List.mem_append] at hy
        rcases hy with hy | hy
        · exact HO.out y hy
        · obtain ⟨_, h2⟩ := List.getElem?_eq_some_iff.1 HX.out
          simp only [List.mem_singleton] at hy
          rw [hy, h2]
          omega
      go_wp2_with fail
      go_round
      case rel => exact ⟨k + 1, by omega, by go_num, HN⟩
      case measure => simp [intOf]; omega
theorem short_keys {l : List Op1} (h : shortB l = true) : (∀ x ∈ l, x.key.size ≤ 60) ∧ l.length ≤ 80 := by
  unfold shortB at h
  rw [Bool.and_eq_true] at h
  exact ⟨fun x hx => by simpa using List.all_eq_true.1 h.1 x hx, by simpa using h.2⟩
end Go.Proofs.YtggffmbhpgioaaaDoor
