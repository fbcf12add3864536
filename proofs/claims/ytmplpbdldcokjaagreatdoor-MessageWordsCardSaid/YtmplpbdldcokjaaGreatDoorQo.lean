/- The walk of message.Decode. -/
import Derived.Test.YtmplpbdldcokjaaGreatDoorQn
namespace Go.Proofs.YtmplpbdldcokjaaGreatDoor
open Go Go.RowKit Go.Shelf
set_option linter.unusedSimpArgs false
set_option linter.unusedVariables false

theorem allO_mem : ∀ {ps : List (List UInt8)} {ts : List Tm}, allO ps = some ts → ∀ t ∈ ts, ∃ x ∈ ps, termO x = some t
  | [], ts, h, t, ht => by injection h with h; subst h; cases ht
  | x :: ps, ts, h, t, ht => by
    rw [allO] at h
    split at h
    · rename_i u l hu hl
      injection h with h
      subst h
      rcases List.mem_cons.1 ht with rfl | ht
      · exact ⟨x, by simp, hu⟩
      · obtain ⟨y, hy, hy2⟩ := allO_mem hl t ht
        exact ⟨y, by simp [hy], hy2⟩
    · cases h
theorem termO_valid {x : List UInt8} {t : Tm} (h : termO x = some t) : validT true 4 t = true := by
  unfold termO at h
  cases hr : termRF x with
  | ok u => rw [hr] at h; injection h with h; subst h; exact termRF_valid hr
  | err p k => rw [hr] at h; cases h
theorem tmO_fine {l : List (List UInt8)} {ts : List Tm} (h : tmO l = some ts) (hl : ∀ x ∈ l, x.length ≤ 4000) : ts.length ≤ 5000 ∧ ∀ t ∈ ts, validT true 4 t = true := by
  cases l with
  | nil => cases h
  | cons x l =>
    have h1 : (unT x).bind itemsF = some ts := h
    obtain ⟨t, hu, hi⟩ := Option.bind_eq_some_iff.1 h1
    have hx := hl x (by simp)
    rw [unT_iff] at hu
    have htl : t.length ≤ 4000 := by
      by_cases hz : t = []
      · subst hz; simp
      · rw [escT_ne hz] at hu
        have := (escA_len t).1
        rw [hu] at this
        omega
    unfold itemsF at hi
    split at hi
    · injection hi with hi; subst hi; simp
    · have h2 := allO_len hi
      have h3 := (pieces_le t).1
      refine ⟨by omega, fun u hu => ?_⟩
      obtain ⟨y, _, hy⟩ := allO_mem hi u hu
      exact termO_valid hy
/-- what is known of a message that was read -/
structure Fine (m : Ms) : Prop where
  args : m.role.args = []
  n1 : m.moves.length ≤ 5000
  n2 : m.percepts.length ≤ 5000
  v1 : ∀ t ∈ m.moves, validT true 4 t = true
  v2 : ∀ t ∈ m.percepts, validT true 4 t = true
  mat : m.mat.length ≤ 4000
  role : m.role.name.length ≤ 4000
  text : m.text.length ≤ 4000
theorem hd_le {l : List (List UInt8)} (h : ∀ x ∈ l, x.length ≤ 4000) {a : List UInt8} (ha : l.head? = some a) : a.length ≤ 4000 := by
  cases l with
  | nil => cases ha
  | cons x l => injection ha with ha; subst ha; exact h x (by simp)
theorem tail4 {l : List (List UInt8)} (h : ∀ x ∈ l, x.length ≤ 4000) : ∀ x ∈ l.tail, x.length ≤ 4000 := fun x hx => h x (List.mem_of_mem_tail hx)
theorem tx_le4 {l : List (List UInt8)} (h : ∀ x ∈ l, x.length ≤ 4000) {t : List UInt8} (ht : txO l = some t) : t.length ≤ 4000 := by
  unfold txO at ht
  cases l with
  | nil => cases ht
  | cons x l =>
    have h1 : unT x = some t := ht
    rw [unT_iff] at h1
    have h2 := h x (by simp)
    by_cases hz : t = []
    · subst hz; simp
    · rw [escT_ne hz] at h1
      have := (escA_len t).1
      rw [h1] at this
      omega
theorem list_fine {k : Int} {l : List (List UInt8)} {m : Ms} (hl : ∀ x ∈ l, x.length ≤ 4000) (h : listP k l = some m) : Fine m := by
  unfold listP at h
  split at h
  · rename_i a x y h1 h2 h3
    injection h with h
    subst h
    obtain ⟨a1, a2⟩ := tmO_fine h2 (tail4 hl)
    obtain ⟨b1, b2⟩ := tmO_fine h3 (tail4 (tail4 hl))
    exact ⟨rfl, a1, b1, a2, b2, hd_le hl h1, by simp [Tm.name], by simp⟩
  · cases h
theorem read_fine {k : List UInt8} {l : List (List UInt8)} {m : Ms} (hl : ∀ x ∈ l, x.length ≤ 4000) (h : readP k l = some m) : Fine m := by
  unfold readP at h
  split at h
  · split at h
    · rename_i a b c d t h1 h2 h3 h4 h5
      injection h with h
      subst h
      exact ⟨rfl, by simp, by simp, by simp, by simp, hd_le hl h1, hd_le (tail4 hl) h2, tx_le4 (tail4 (tail4 (tail4 (tail4 hl)))) h5⟩
    · cases h
  split at h
  · exact list_fine hl h
  split at h
  · exact list_fine hl h
  split at h
  · obtain ⟨a, ha, rfl⟩ := Option.map_eq_some_iff.1 h
    exact ⟨rfl, by simp, by simp, by simp, by simp, hd_le hl ha, by simp [Tm.name], by simp⟩
  split at h
  · injection h with h; subst h
    exact ⟨rfl, by simp, by simp, by simp, by simp, by simp, by simp [Tm.name], by simp⟩
  split at h
  · obtain ⟨a, ha, rfl⟩ := Option.map_eq_some_iff.1 h
    obtain ⟨a1, a2⟩ := tmO_fine ha hl
    exact ⟨rfl, a1, by simp, a2, by simp, by simp, by simp [Tm.name], by simp⟩
  split at h
  · injection h with h; subst h
    exact ⟨rfl, by simp, by simp, by simp, by simp, by simp, by simp [Tm.name], by simp⟩
  injection h with h; subst h
  exact ⟨rfl, by simp [ms0], by simp [ms0], by simp [ms0], by simp [ms0], by simp [ms0], by simp [ms0, Tm.name], by simp [ms0]⟩
theorem tmb_of4 {v : Bool} {t : Tm} (h : validT v 4 t = true) : TmB t := tmb_w _ _ (valid_w 4 t h) (by decide)

theorem start_jp {w : World} {b : Nat} {l : List (List UInt8)} {n1 n2 : Int} (h1 : ∀ v, numO l.tail.tail = some v → n1 = v) (h2 : ∀ v, numO l.tail.tail.tail = some v → n2 = v) :
    ((((((false || l.isEmpty) || l.tail.isEmpty) || (numO l.tail.tail).isNone) || (numO l.tail.tail.tail).isNone) || (txO l.tail.tail.tail.tail).isNone) = true ∧ readP wStart l = none) ∨
     ((((((false || l.isEmpty) || l.tail.isEmpty) || (numO l.tail.tail).isNone) || (numO l.tail.tail.tail).isNone) || (txO l.tail.tail.tail.tail).isNone) = false ∧ ∃ m, readP wStart l = some m ∧ MsC w b ((((((zMsg.setIfInBounds 0 (.int .i64 1)).setIfInBounds 1 (.string (bs (l.headD [])))).setIfInBounds 2 (.string (bs (l.tail.headD [])))).setIfInBounds 4 (.int .i64 n1)).setIfInBounds 5 (.int .i64 n2)).setIfInBounds 8 (.string (bs ((txO l.tail.tail.tail.tail).getD [])))) m) := by
  unfold readP
  rw [if_pos rfl]
  cases l with
  | nil => exact .inl ⟨rfl, rfl⟩
  | cons x l =>
    cases l with
    | nil => exact .inl ⟨rfl, rfl⟩
    | cons y l =>
      cases e1 : numO (x :: y :: l).tail.tail with
      | none => exact .inl ⟨by simp, rfl⟩
      | some a =>
        cases e2 : numO (x :: y :: l).tail.tail.tail with
        | none => exact .inl ⟨by simp, rfl⟩
        | some c =>
          cases e3 : txO (x :: y :: l).tail.tail.tail.tail with
          | none => exact .inl ⟨by simp, rfl⟩
          | some t =>
            rw [h1 a e1, h2 c e2]
            exact .inr ⟨rfl, _, rfl, none, 0, none, 0, rfl, rfl, slv_none _ _, slv_none _ _⟩
theorem abort_jp {w : World} {b : Nat} {l : List (List UInt8)} :
    ((false || l.isEmpty) = true ∧ readP wAbort l = none) ∨ ((false || l.isEmpty) = false ∧ ∃ m, readP wAbort l = some m ∧ MsC w b ((zMsg.setIfInBounds 0 (.int .i64 4)).setIfInBounds 1 (.string (bs (l.headD [])))) m) := by
  unfold readP
  rw [if_neg (by decide), if_neg (by decide), if_neg (by decide), if_pos rfl]
  cases l with
  | nil => exact .inl ⟨rfl, rfl⟩
  | cons x l => exact .inr ⟨rfl, _, rfl, none, 0, none, 0, rfl, rfl, slv_none _ _, slv_none _ _⟩
theorem move_jp {w : World} {b : Nat} {l : List (List UInt8)} {A : Option Addr} {cp : Nat} (h1 : SlV TmV 2 w (fun j => b + 4 < j) A ((tmO l).getD [])) :
    ((false || (tmO l).isNone) = true ∧ readP wMove l = none) ∨ ((false || (tmO l).isNone) = false ∧ ∃ m, readP wMove l = some m ∧ MsC w b ((zMsg.setIfInBounds 0 (.int .i64 6)).setIfInBounds 6 (.slice A ((tmO l).getD []).length cp)) m) := by
  unfold readP
  rw [if_neg (by decide), if_neg (by decide), if_neg (by decide), if_neg (by decide), if_neg (by decide), if_pos rfl]
  cases e1 : tmO l with
  | none => exact .inl ⟨rfl, rfl⟩
  | some a =>
    rw [e1] at h1
    exact .inr ⟨rfl, _, rfl, A, cp, none, 0, rfl, rfl, h1, slv_none _ _⟩
theorem ready_jp {w : World} {b : Nat} {l : List (List UInt8)} : ∃ m, readP wReady l = some m ∧ MsC w b (zMsg.setIfInBounds 0 (.int .i64 5)) m := by
  unfold readP
  rw [if_neg (by decide), if_neg (by decide), if_neg (by decide), if_neg (by decide), if_pos rfl]
  exact ⟨_, rfl, none, 0, none, 0, rfl, rfl, slv_none _ _, slv_none _ _⟩
theorem done_jp {w : World} {b : Nat} {l : List (List UInt8)} : ∃ m, readP wDone l = some m ∧ MsC w b (zMsg.setIfInBounds 0 (.int .i64 7)) m := by
  unfold readP
  rw [if_neg (by decide), if_neg (by decide), if_neg (by decide), if_neg (by decide), if_neg (by decide), if_neg (by decide), if_pos rfl]
  exact ⟨_, rfl, none, 0, none, 0, rfl, rfl, slv_none _ _, slv_none _ _⟩
theorem other_jp {w : World} {b : Nat} {k : List UInt8} {l : List (List UInt8)} (h1 : k ≠ wStart) (h2 : k ≠ wPlay) (h3 : k ≠ wStop) (h4 : k ≠ wAbort) (h5 : k ≠ wReady) (h6 : k ≠ wMove) (h7 : k ≠ wDone) : ∃ m, readP k l = some m ∧ MsC w b zMsg m := by
  unfold readP
  rw [if_neg h1, if_neg h2, if_neg h3, if_neg h4, if_neg h5, if_neg h6, if_neg h7]
  exact ⟨_, rfl, none, 0, none, 0, rfl, rfl, slv_none _ _, slv_none _ _⟩
theorem ds_start (w : World) (s : List UInt8) (hs : s.length ≤ 4000) {w2 : World} (h2 : w2 = (w.alloc (.cells zMsg 27)).alloc (.cells ((wordsF s).map fun x => Value.string (bs x)).toArray 9)) :
    w2.heap.size = w.heap.size + 2 ∧ DS w (((w2.alloc (.cells #[.slice (some ⟨w.heap.size + 1, 0, none⟩) (wordsF s).length (wordsF s).length, .bool false] 47)).alloc (.cells #[.pointer (some ⟨w.heap.size + 2, 0, none⟩)] 43)).alloc (.cells zMsg 27)) w.heap.size 0 (wordsF s) false zMsg := by
  have hsz : w2.heap.size = w.heap.size + 2 := by rw [h2]; simp
  refine ⟨hsz, ?_⟩
  have b1 := one_box w (.cells zMsg 27)
  have hs1 : (w.alloc (.cells zMsg 27)).heap.size = w.heap.size + 1 := by simp
  have b2 := one_box (w.alloc (.cells zMsg 27)) (.cells ((wordsF s).map fun x => Value.string (bs x)).toArray 9)
  rw [← h2, hs1] at b2
  have b3 := one_box w2 (.cells #[.slice (some ⟨w.heap.size + 1, 0, none⟩) (wordsF s).length (wordsF s).length, .bool false] 47)
  rw [hsz] at b3
  have hs3 : (w2.alloc (.cells #[.slice (some ⟨w.heap.size + 1, 0, none⟩) (wordsF s).length (wordsF s).length, .bool false] 47)).heap.size = w.heap.size + 3 := by simp; omega
  generalize w2.alloc (.cells #[.slice (some ⟨w.heap.size + 1, 0, none⟩) (wordsF s).length (wordsF s).length, .bool false] 47) = w3 at *
  have b4 := one_box w3 (.cells #[.pointer (some ⟨w.heap.size + 2, 0, none⟩)] 43)
  rw [hs3] at b4
  have hs4 : (w3.alloc (.cells #[.pointer (some ⟨w.heap.size + 2, 0, none⟩)] 43)).heap.size = w.heap.size + 4 := by simp; omega
  generalize w3.alloc (.cells #[.pointer (some ⟨w.heap.size + 2, 0, none⟩)] 43) = w4 at *
  have b5 := one_box w4 (.cells zMsg 27)
  rw [hs4] at b5
  generalize w4.alloc (.cells zMsg 27) = w5 at *
  have c2 := b2.1
  have c3 := b3.1
  have c4 := b4.1
  have c5 := b5.1
  have d35 : Below (w.heap.size + 3) w3 w5 := c4.trans (c5.mono (by omega))
  have d25 : Below (w.heap.size + 2) w2 w5 := c3.trans (d35.mono (by omega))
  have d15 : Below (w.heap.size + 1) (w.alloc (.cells zMsg 27)) w5 := c2.trans (d25.mono (by omega))
  have d05 : Below w.heap.size w w5 := b1.1.trans (d15.mono (by omega))
  have hstr : w5.heap[w.heap.size + 1]? = some (.cells ((wordsF s).map fun x => Value.string (bs x)).toArray 9 (0, 0)) := (d25.block _ (by omega)).trans b2.2
  have hwl := words_le s
  refine ⟨(d15.block _ (by omega)).trans b1.2, ⟨(d35.block _ (by omega)).trans b3.2, fun i x hx => ?_, by omega, heap_lt hstr, by omega⟩, (c5.block _ (by omega)).trans b4.2, b5.2, d05⟩
  rw [Nat.zero_add, cell_blk hstr i]
  simp [hx]
end Go.Proofs.YtmplpbdldcokjaaGreatDoor
