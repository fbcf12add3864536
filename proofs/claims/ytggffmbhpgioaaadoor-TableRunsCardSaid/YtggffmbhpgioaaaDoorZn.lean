/- The reference's table in memory; the walks of its slot, with, fits and New. -/
import Derived.Test.YtggffmbhpgioaaaDoorZl
import Derived.Deep.AppendLies
namespace Go.Proofs.YtggffmbhpgioaaaDoor
open Go Go.RowKit Go.Shelf
set_option linter.unusedSimpArgs false

/-- a slice of entries in memory; P says in which blocks it may lie -/
def EnS (w : World) (P : Nat → Prop) (A : Option Addr) (l : List En) : Prop :=
  0 < l.length → ∃ b o, A = some ⟨b, o, none⟩ ∧ P b ∧ b < w.heap.size ∧ ∀ (j : Nat) (u : Value), (l.flatMap enCells)[j]? = some u → w.cell? ⟨b, o + j, none⟩ = some u
theorem EnS.keep {w w' : World} {P : Nat → Prop} {A : Option Addr} {l : List En} (h : EnS w P A l) (hk : ∀ b, P b → b < w.heap.size → w'.heap[b]? = w.heap[b]?) (hs : w.heap.size ≤ w'.heap.size) : EnS w' P A l := by
  intro hn
  obtain ⟨b, o, hA, hP, hlt, hc⟩ := h hn
  exact ⟨b, o, hA, hP, Nat.lt_of_lt_of_le hlt hs, fun j u hu => (World.cell?_of_block (a := ⟨b, o + j, none⟩) (hk b hP hlt)).trans (hc j u hu)⟩
theorem EnS.below {w w' : World} {P : Nat → Prop} {A : Option Addr} {l : List En} (h : EnS w P A l) (hb : Below w.heap.size w w') : EnS w' P A l := h.keep (fun b _ hlt => hb.block b hlt) hb.size
theorem EnS.at {w : World} {P : Nat → Prop} {A : Option Addr} {l : List En} (h : EnS w P A l) {k : Nat} {x : En} (hx : l[k]? = some x) : ∃ b o, A = some ⟨b, o, none⟩ ∧ b < w.heap.size ∧ One w b (o + k * 7) x := by
  obtain ⟨b, o, hA, _, hlt, hc⟩ := h (by have := (List.getElem?_eq_some_iff.1 hx).1; omega)
  have hh : ∀ (i : Nat) (u : Value), (enCells x)[i]? = some u → w.cell? ⟨b, o + k * 7 + i, none⟩ = some u := fun i u hu => by
    rw [Nat.add_assoc]; exact hc _ u (fm_get l k i x u hx hu)
  exact ⟨b, o, hA, hlt, hh 0 _ rfl, hh 1 _ rfl, hh 2 _ rfl, hh 3 _ rfl, hh 4 _ rfl, hh 5 _ rfl, hh 6 _ rfl⟩
theorem EnS.one {w : World} {P : Nat → Prop} {b o : Nat} {l : List En} (h : EnS w P (some ⟨b, o, none⟩) l) {k : Nat} {x : En} (hx : l[k]? = some x) : One w b (o + k * 7) x := by
  obtain ⟨b', o', hA, _, h2⟩ := h.at hx
  injection hA with hA
  injection hA with h1 h3
  subst h1
  subst h3
  exact h2
theorem EnS.own {w : World} {P : Nat → Prop} {base : Nat} {e : TypeId} {g n cap : Nat} {l : List En} (h : w.ownsRow base e 7 (.slice (some ⟨g, 0, none⟩) n cap) n (l.flatMap enCells)) (hP : P g) : EnS w P (some ⟨g, 0, none⟩) l := by
  intro _
  refine ⟨g, 0, rfl, hP, (h.lt g rfl).2, fun j u hu => ?_⟩
  have hj : j < n * 7 := by
    have := (List.getElem?_eq_some_iff.1 hu).1
    have h1 := h.1
    omega
  rw [Nat.zero_add, h.cellAt j hj]
  exact hu

theorem infoEnt : (Tryd.prog.info? 83).map (fun i => (i.zero, i.size, i.bytes)) = some (some (.agg #[.bool false, .string ⟨#[]⟩, .int .i64 0, .int .i64 0, .int .i64 0, .int .i64 0, .int .i64 0]), 7, 64) := by kernel_rfl
theorem made_ents (n : Nat) : (madeCells #[.bool false, .string ⟨#[]⟩, .int .i64 0, .int .i64 0, .int .i64 0, .int .i64 0, .int .i64 0] (n * 7)).toList = (List.replicate n en0).flatMap enCells := by
  apply List.ext_getElem?
  intro j
  by_cases hj : j < n * 7
  · have h1 : (List.replicate n en0)[j / 7]? = some en0 := by rw [List.getElem?_replicate, if_pos (by omega)]
    have h2 : ∃ u, (enCells en0)[j % 7]? = some u := ⟨_, List.getElem?_eq_getElem (by show j % 7 < 7; omega)⟩
    obtain ⟨u, hu⟩ := h2
    have h3 := fm_get _ _ _ _ _ h1 hu
    have e : j / 7 * 7 + j % 7 = j := by omega
    rw [e] at h3
    rw [h3, ← hu]
    simp only [madeCells]
    have h7 : j % 7 < 7 := by omega
    simp [hj]
    generalize j % 7 = r at *
    match r, h7 with | 0, _ => rfl | 1, _ => rfl | 2, _ => rfl | 3, _ => rfl | 4, _ => rfl | 5, _ => rfl | 6, _ => rfl
  · rw [List.getElem?_eq_none (by simp [madeCells]; omega), List.getElem?_eq_none (by rw [fm_len]; simp; omega)]
/-- the block that 'make' lays -/
def mkB (n : Nat) : Obj := .cells (madeCells #[.bool false, .string ⟨#[]⟩, .int .i64 0, .int .i64 0, .int .i64 0, .int .i64 0, .int .i64 0] (n * 7)) 83
theorem run_mk (n : Nat) (hn : n ≤ 4096) (w : World) : (Instr.makeSlice 44 (.int .i64 n) (.int .i64 n)).run Tryd.prog w = .ok (.slice (some ⟨w.heap.size, 0, none⟩) n n) (w.alloc (mkB n)) := by
  obtain ⟨i0, hi0, hz0, hz1, hz2⟩ := info_parts infoEnt
  have h := run_make (P := Tryd.prog) w 44 83 i0 _ Tryd.underlying44 hi0 hz0 .i64 .i64 n n (by omega) (by omega) (by rw [hz2]; omega) (by omega)
  simp only [Int.toNat_natCast] at h
  rw [hz1] at h
  exact h
theorem mk_ens {w : World} {P : Nat → Prop} {g n : Nat} (h : w.heap[g]? = some (mkB n)) (hP : P g) : EnS w P (some ⟨g, 0, none⟩) (List.replicate n en0) := by
  intro _
  refine ⟨g, 0, rfl, hP, (Array.getElem?_eq_some_iff.1 h).1, fun j u hu => ?_⟩
  rw [Nat.zero_add, cell_of_row w g j _ _ (0, 0) h, ← Array.getElem?_toList, made_ents]
  exact hu

set_option maxHeartbeats 2000000 in
set_option maxRecDepth 100000 in
theorem rslot_any (w : World) (A B : Option Addr) (n ca m cb : Nat) (f g : Int) (n0 : 0 < n) (n1 : n ≤ 4096) (key : ByteArray) (hs : key.size ≤ 9223372036854775807) :
    Calls Tryd.prog 35 #[.agg #[.slice A n ca, .slice B m cb, .int .i64 f, .int .i64 g], .string key] w (OutB w (.int .i64 (slotI key n))) := by
  obtain ⟨x, hx, hx2⟩ := hash_nat key.data.toList
  have CH := Lib.hid (fun w => rhash_any w key hs)
  rw [hx] at CH
  have HS : Hid (slotI key n = x % n) := Lib.hid (by unfold slotI; rw [hx]; simp)
  clear hx hs
  have hlt : x % n < n := Nat.mod_lt _ n0
  have z1 : (1 : Int) ≤ (n : Int) := by omega
  have z2 : ((n : Int) == 0) = false := by simp; omega
  go_enter Tryd.func35, Tryd.ntmps35
  go_wp2_with fail
  go_quiet ((go_at_call 10; exact Calls.quiet_of_same ((CH.out _).mono fun _ _ h => ⟨h.1, h.2.symm⟩)))
  go_wp2_with fail
  go_ret
  exact ⟨by rw [HS.out]; rfl, below_dn ((Below.refl _ _).alloc (Nat.le_refl _) _) _⟩

set_option maxHeartbeats 1000000 in
set_option maxRecDepth 100000 in
theorem rfits_any (w : World) (x : En) (key : ByteArray) (n : Int) :
    Calls Tryd.prog 37 #[enV x, .string key, .int .i64 n] w (OutB w (.bool (x.u && pfit key n x))) := by
  obtain ⟨u, k, d, ⟨a, b, c, e⟩⟩ := x
  unfold enV
  cases u
  all_goals
    go_enter Tryd.func37, Tryd.ntmps37
    go_wp2_with fail
    all_goals
      go_ret
      refine ⟨?_, (Below.refl _ _).alloc (Nat.le_refl _) _⟩
      simp_all [fitB, pfit]
end Go.Proofs.YtggffmbhpgioaaaDoor
