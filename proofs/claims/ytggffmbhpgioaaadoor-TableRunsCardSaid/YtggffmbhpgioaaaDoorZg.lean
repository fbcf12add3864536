/- How a table lies in memory; the walks of right, slot, Hits and New. -/
import Derived.Test.YtggffmbhpgioaaaDoorZf
import Derived.PlainAid
import Derived.Lib.EndianBits
namespace Go.Proofs.YtggffmbhpgioaaaDoor
open Go Go.RowKit Go.Shelf
set_option linter.unusedSimpArgs false

theorem below_dn {B : Nat} {a w : World} (h : Below B a w) (n : Nat) : Below B a (w.drewN n) := ⟨h.os, h.tape, h.output, h.size, h.block⟩
theorem hash_nat (l : List UInt8) : ∃ x : Nat, hashF l = x ∧ x ≤ 18446744073709551615 := by
  have h : 0 ≤ hashF l ∧ hashF l ≤ 18446744073709551615 := by
    unfold hashF
    generalize h0 : (14695981039346656037 : Int) = a
    have ha : 0 ≤ a ∧ a ≤ 18446744073709551615 := by omega
    clear h0
    induction l generalizing a with
    | nil => exact ha
    | cons c r ih =>
      rw [List.foldl_cons]
      refine ih _ ?_
      unfold hstep
      rw [IntKind.wrap_u64]
      omega
  exact ⟨(hashF l).toNat, by omega, by omega⟩
/-- the number of the slot of a key -/
def slotI (key : ByteArray) (n : Nat) : Nat := (hashF key.data.toList).toNat % n

theorem fm_len : ∀ (T : List En), (T.flatMap enCells).length = T.length * 7
  | [] => rfl
  | x :: T => by
    rw [List.flatMap_cons, List.length_append, fm_len T]
    simp [enCells]; omega
theorem fm_get : ∀ (T : List En) (j i : Nat) (x : En) (u : Value), T[j]? = some x → (enCells x)[i]? = some u → (T.flatMap enCells)[j * 7 + i]? = some u
  | [], j, i, x, u, h, _ => by simp at h
  | y :: T, 0, i, x, u, h, hu => by
    simp at h
    subst h
    have hi := (List.getElem?_eq_some_iff.1 hu).1
    rw [List.flatMap_cons, List.getElem?_append_left (by omega), Nat.zero_mul, Nat.zero_add]
    exact hu
  | y :: T, j + 1, i, x, u, h, hu => by
    have hy : (enCells y).length = 7 := rfl
    rw [List.flatMap_cons, List.getElem?_append_right (by rw [hy]; omega), ← fm_get T j i x u (by simpa using h) hu]
    congr 1
    rw [hy]; omega
theorem set7 (y : En) (r : List Value) (q : Nat) (u : Value) : (enCells y ++ r).set (q + 7) u = enCells y ++ r.set q u := by simp [enCells]
/-- seven stores lay an entry -/
theorem fm_set : ∀ (T : List En) (j : Nat) (x : En), j < T.length →
    ((((((((T.flatMap enCells).set (j * 7) (.bool x.u)).set (j * 7 + 1) (.string x.k)).set (j * 7 + 2) (.int .i64 x.d)).set (j * 7 + 3) (.int .i64 x.b.a)).set (j * 7 + 4) (.int .i64 x.b.b)).set (j * 7 + 5) (.int .i64 x.b.c)).set (j * 7 + 6) (.int .i64 x.b.e)) = (T.set j x).flatMap enCells
  | [], j, x, h => by simp at h
  | y :: T, 0, x, _ => by simp [enCells]
  | y :: T, j + 1, x, h => by
    rw [List.flatMap_cons, List.set_cons_succ, List.flatMap_cons, ← fm_set T j x (by simpa using h)]
    have e : ∀ i, (j + 1) * 7 + i = j * 7 + i + 7 := by omega
    have e0 : (j + 1) * 7 = j * 7 + 7 := by omega
    rw [e, e, e, e, e, e, e0, set7, set7, set7, set7, set7, set7, set7]

/-- a table in memory: its own block bt, the block of its slots bs, n slots, the entries T -/
structure TabM (w : World) (bt bs n : Nat) (T : List En) (h m : Int) : Prop where
  hd : w.heap[bt]? = some (.cells #[.slice (some ⟨bs, 0, none⟩) n n, .int .i64 h, .int .i64 m] 51 (0, 0))
  own : w.ownsRow 0 80 14 (.slice (some ⟨bs, 0, none⟩) n n) n (T.flatMap enCells)
  len : T.length = 2 * n
  n0 : 0 < n
  n1 : n ≤ 4096
  ne : bt ≠ bs
theorem TabM.lt {w : World} {bt bs n : Nat} {T : List En} {h m : Int} (t : TabM w bt bs n T h m) : bt < w.heap.size ∧ bs < w.heap.size :=
  ⟨(Array.getElem?_eq_some_iff.1 t.hd).1, (t.own.lt bs rfl).2⟩
theorem TabM.keep {w w' : World} {bt bs n : Nat} {T : List En} {h m : Int} (t : TabM w bt bs n T h m) {row : Option Nat} (hg : w.grownBy w' row) (h1 : row ≠ some bt) (h2 : row ≠ some bs) : TabM w' bt bs n T h m :=
  ⟨(hg.block bt t.lt.1 (Ne.symm h1)).trans t.hd, t.own.kept hg (.inr (Ne.symm h2)), t.len, t.n0, t.n1, t.ne⟩
theorem TabM.below {w w' : World} {bt bs n : Nat} {T : List En} {h m : Int} (t : TabM w bt bs n T h m) (hb : Below w.heap.size w w') : TabM w' bt bs n T h m :=
  t.keep (row := none) ⟨hb.os, hb.tape, hb.output, hb.size, fun k hk _ => hb.block k hk⟩ (by simp) (by simp)
theorem cell_blk {w : World} {b : Nat} {cs : Array Value} {t : TypeId} (h : w.heap[b]? = some (.cells cs t (0, 0))) (i : Nat) : w.cell? ⟨b, i, none⟩ = cs[i]? := cell_of_row w b i cs t (0, 0) h
theorem free_blk {w : World} {b : Nat} {cs : Array Value} {t : TypeId} (h : w.heap[b]? = some (.cells cs t (0, 0))) (i : Nat) : w.frozen? ⟨b, i, none⟩ = false := frozen_of_row w b i cs t h
theorem TabM.head {w : World} {bt bs n : Nat} {T : List En} {h m : Int} (t : TabM w bt bs n T h m) :
    w.cell? ⟨bt, 0, none⟩ = some (.slice (some ⟨bs, 0, none⟩) n n) ∧ w.cell? ⟨bt, 1, none⟩ = some (.int .i64 h) ∧ w.cell? ⟨bt, 2, none⟩ = some (.int .i64 m) ∧ w.frozen? ⟨bt, 1, none⟩ = false ∧ w.frozen? ⟨bt, 2, none⟩ = false :=
  ⟨cell_blk t.hd 0, cell_blk t.hd 1, cell_blk t.hd 2, free_blk t.hd 1, free_blk t.hd 2⟩
theorem TabM.two {w : World} {bt bs n : Nat} {T : List En} {h m : Int} (t : TabM w bt bs n T h m) {k : Nat} {x y : En} (hx : T[2 * k]? = some x) (hy : T[2 * k + 1]? = some y) : Two w bs (k * 14) x y := by
  refine ⟨t.lt.2, fun i u hu => ?_⟩
  have hk := (List.getElem?_eq_some_iff.1 hy).1
  have hl := t.len
  have hi := (List.getElem?_eq_some_iff.1 hu).1
  have h14 : (enCells x ++ enCells y).length = 14 := rfl
  have h7 : (enCells x).length = 7 := rfl
  have e0 : k * 14 + i = 2 * k * 7 + i := by omega
  rw [t.own.cellAt (k * 14 + i) (by omega), e0]
  rcases Nat.lt_or_ge i 7 with hlt | hge
  · rw [List.getElem?_append_left (by omega)] at hu
    exact fm_get T (2 * k) i x u hx hu
  · rw [List.getElem?_append_right (by omega)] at hu
    have := fm_get T (2 * k + 1) (i - 7) y u hy hu
    rw [← this]
    congr 1
    omega

set_option maxHeartbeats 1000000 in
theorem right_any (w : World) {bt bs n : Nat} {T : List En} {h m : Int} (t : TabM w bt bs n T h m) : Calls Tryd.prog 30 #[.pointer (some ⟨bt, 0, none⟩)] w (OutS w (.bool true)) := by
  have c0 := t.head.1
  have n0 : (0 : Int) < (n : Int) := by have := t.n0; omega
  have n0' := t.n0
  clear t
  go_enter Tryd.func30, Tryd.ntmps30
  go_wp2_with fail
  go_ret
  exact ⟨rfl, rfl⟩
set_option maxHeartbeats 1000000 in
theorem right_nil (w : World) : Calls Tryd.prog 30 #[.pointer none] w (OutS w (.bool false)) := by
  go_enter Tryd.func30, Tryd.ntmps30
  go_wp2_with fail
  go_ret
  exact ⟨rfl, rfl⟩
set_option maxHeartbeats 1000000 in
theorem right_raw (w : World) (bt : Nat) (c0 : w.cell? ⟨bt, 0, none⟩ = some (.slice none 0 0)) : Calls Tryd.prog 30 #[.pointer (some ⟨bt, 0, none⟩)] w (OutS w (.bool false)) := by
  go_enter Tryd.func30, Tryd.ntmps30
  go_wp2_with fail
  go_ret
  exact ⟨rfl, rfl⟩

set_option maxHeartbeats 2000000 in
set_option maxRecDepth 100000 in
theorem slot_any (w : World) {bt bs n : Nat} {T : List En} {h m : Int} (t : TabM w bt bs n T h m) (key : ByteArray) (hs : key.size ≤ 9223372036854775807) :
    Calls Tryd.prog 31 #[.pointer (some ⟨bt, 0, none⟩), .string key] w (OutB w (.pointer (some ⟨bs, slotI key n * 14, none⟩))) := by
  have c0 := t.head.1
  have n0 := t.n0
  have n1 := t.n1
  clear t
  obtain ⟨x, hx, hx2⟩ := hash_nat key.data.toList
  have CH := Lib.hid (fun w => hash_any w key hs)
  rw [hx] at CH
  have HS : Hid (slotI key n = x % n) := Lib.hid (by unfold slotI; rw [hx]; simp)
  clear hx hs
  have hlt : x % n < n := Nat.mod_lt _ n0
  have z1 : (1 : Int) ≤ (n : Int) := by omega
  have z2 : ((n : Int) == 0) = false := by simp; omega
  go_enter Tryd.func31, Tryd.ntmps31
  go_wp2_with fail
  go_quiet ((go_at_call 9; exact Calls.quiet_of_same ((CH.out _).mono fun _ _ h => ⟨h.1, h.2.symm⟩)))
  go_wp2_with fail
  go_ret
  exact ⟨by rw [HS.out]; rfl, below_dn (Below.refl _ _) _⟩

set_option maxHeartbeats 2000000 in
set_option maxRecDepth 100000 in
theorem hits_any (w : World) {bt bs n : Nat} {T : List En} {h m : Int} (t : TabM w bt bs n T h m) : Calls Tryd.prog 20 #[.pointer (some ⟨bt, 0, none⟩)] w (OutB w (.tuple #[.int .i64 h, .int .i64 m])) := by
  obtain ⟨_, c1, c2, _, _⟩ := t.head
  have CR := Lib.hid (right_any w t)
  clear t
  go_enter Tryd.func20, Tryd.ntmps20
  go_wp2_with fail
  refine CR.out.mono ?_
  rintro e w1 ⟨rfl, rfl⟩
  go_wp2_with fail
  go_quiet (fail)
  go_wp2_with fail
  go_ret2
  exact ⟨rfl, below_dn (Below.refl _ _) _⟩
set_option maxHeartbeats 2000000 in
theorem hits_not (w : World) (p : Option Addr) (hr : Calls Tryd.prog 30 #[.pointer p] w (OutS w (.bool false))) : Calls Tryd.prog 20 #[.pointer p] w (OutB w (.tuple #[.int .i64 0, .int .i64 0])) := by
  have CR := Lib.hid hr
  clear hr
  go_enter Tryd.func20, Tryd.ntmps20
  go_wp2_with fail
  refine CR.out.mono ?_
  rintro e w1 ⟨rfl, rfl⟩
  go_wp2_with fail
  go_ret2
  exact ⟨rfl, Below.refl _ _⟩

theorem infoSlot : (Tryd.prog.info? 80).map (fun i => (i.zero, i.size, i.bytes)) = some (some (.agg #[.bool false, .string ⟨#[]⟩, .int .i64 0, .int .i64 0, .int .i64 0, .int .i64 0, .int .i64 0, .bool false, .string ⟨#[]⟩, .int .i64 0, .int .i64 0, .int .i64 0, .int .i64 0, .int .i64 0]), 14, 128) := by kernel_rfl
theorem made_slots (n : Nat) : (madeCells #[.bool false, .string ⟨#[]⟩, .int .i64 0, .int .i64 0, .int .i64 0, .int .i64 0, .int .i64 0, .bool false, .string ⟨#[]⟩, .int .i64 0, .int .i64 0, .int .i64 0, .int .i64 0, .int .i64 0] (n * 14)).toList = (List.replicate (2 * n) en0).flatMap enCells := by
  apply List.ext_getElem?
  intro j
  by_cases hj : j < n * 14
  · have h1 : (List.replicate (2 * n) en0)[j / 7]? = some en0 := by rw [List.getElem?_replicate, if_pos (by omega)]
    have h2 : ∃ u, (enCells en0)[j % 7]? = some u := ⟨_, List.getElem?_eq_getElem (by show j % 7 < 7; omega)⟩
    obtain ⟨u, hu⟩ := h2
    have h3 := fm_get _ _ _ _ _ h1 hu
    have e : j / 7 * 7 + j % 7 = j := by omega
    rw [e] at h3
    rw [h3, ← hu]
    simp only [madeCells]
    have hm : j % 14 = j % 7 ∨ j % 14 = j % 7 + 7 := by omega
    have h7 : j % 7 < 7 := by omega
    simp [hj]
    generalize j % 7 = r at *
    rcases hm with hm | hm <;> rw [hm] <;> (obtain ⟨r, rfl⟩ | h := (⟨r, rfl⟩ : ∃ q, r = q)) <;> (match r, h7 with | 0, _ => rfl | 1, _ => rfl | 2, _ => rfl | 3, _ => rfl | 4, _ => rfl | 5, _ => rfl | 6, _ => rfl)
  · rw [List.getElem?_eq_none (by simp [madeCells]; omega), List.getElem?_eq_none (by rw [fm_len]; simp; omega)]
def NewP (w : World) (n : Nat) (e : Ending) (w' : World) : Prop :=
  ∃ bt bs, e = .returned (.tuple #[.pointer (some ⟨bt, 0, none⟩), .int .i64 0]) ∧ TabM w' bt bs n (List.replicate (2 * n) en0) 0 0 ∧ w.heap.size ≤ bt ∧ w.heap.size ≤ bs ∧ Below w.heap.size w w'
set_option maxHeartbeats 2000000 in
set_option maxRecDepth 100000 in
theorem new_any (w : World) (n : Nat) (h0 : 0 < n) (h1 : n ≤ 4096) : Calls Tryd.prog 13 #[.int .i64 n] w (NewP w n) := by
  obtain ⟨i0, hi0, hz0, hz1, hz2⟩ := info_parts infoSlot
  have d0 : ¬ (n : Int) < 1 := by omega
  have d1 : ¬ (4096 : Int) < (n : Int) := by omega
  go_enter Tryd.func13, Tryd.ntmps13
  go_wp2_with (at_make; refine wpList_make_full _ rfl _ _ 49 rfl 0 80 i0 _ 14 Tryd.underlying49 hi0 hz0 hz1 .i64 .i64 n n n (by rfl) (by rfl) rfl rfl (by rw [hz2]; omega) (by unfold maxLen; omega) (Nat.zero_le _) ?_)
  intro w1 hown hgrow
  have HO := Lib.hid hown
  have HG := Lib.hid hgrow
  have hsz : w.heap.size < w1.heap.size := (hown.lt w.heap.size rfl).2
  clear hown hgrow hi0 hz0 hz1 hz2
  go_wp2_with fail
  go_ret2
  have e2 : ∀ z : Obj, (w1.alloc z).heap[w1.heap.size]? = some z := fun z => heap_alloc_new w1 z
  have HO2 := HO.out
  rw [made_slots] at HO2
  exact ⟨_, _, rfl, ⟨e2 _, HO2.alloc _, by simp, h0, h1, by omega⟩, by omega, Nat.le_refl _, ((Below.refl _ _).grown HG.out (Nat.le_refl _) (by simp)).alloc (by omega) _⟩
set_option maxHeartbeats 2000000 in
theorem new_no (w : World) (n : Int) (h : n < 1 ∨ 4096 < n) : Calls Tryd.prog 13 #[.int .i64 n] w (OutB w (.tuple #[.pointer none, .int .i64 12])) := by
  have d1 : n < 1 ∨ ¬ n < 1 ∧ 4096 < n := by omega
  rcases d1 with d1 | ⟨d0, d1⟩
  · clear h
    go_enter Tryd.func13, Tryd.ntmps13
    go_wp2_with fail
    go_ret2
    exact ⟨rfl, Below.refl _ _⟩
  · clear h
    go_enter Tryd.func13, Tryd.ntmps13
    go_wp2_with fail
    go_ret2
    exact ⟨rfl, Below.refl _ _⟩
end Go.Proofs.YtggffmbhpgioaaaDoor
