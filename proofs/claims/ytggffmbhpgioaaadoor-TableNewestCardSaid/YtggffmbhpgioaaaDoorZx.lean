/- The plain law of TableNewest. -/
import Derived.Test.YtggffmbhpgioaaaDoorZu
namespace Go.Proofs.YtggffmbhpgioaaaDoor
open Go Go.RowKit Go.Shelf
set_option linter.unusedSimpArgs false

theorem sub_len {α : Type} [BEq α] [LawfulBEq α] : ∀ (xs ys : List α), xs.Nodup → (∀ x ∈ xs, x ∈ ys) → xs.length ≤ ys.length
  | [], _, _, _ => Nat.zero_le _
  | x :: r, ys, hn, hs => by
    have hx : x ∈ ys := hs x List.mem_cons_self
    have hn' := List.nodup_cons.1 hn
    have h1 := sub_len r (ys.erase x) hn'.2 (fun y hy => by
      have hne : y ≠ x := fun e => hn'.1 (e ▸ hy)
      exact (List.mem_erase_of_ne hne).2 (hs y (List.mem_cons_of_mem _ hy)))
    have h2 := List.length_erase_of_mem hx
    have h3 : 0 < ys.length := List.length_pos_of_mem hx
    simp only [List.length_cons]
    omega
/-- what Put leaves of its slot -/
theorem putF_slot (T : List En) (s : Nat) (e x y : En) (hx : T[2 * s]? = some x) (hy : T[2 * s + 1]? = some y) (hd : x.u = true → y.u = true → x.k.toList ≠ y.k.toList) :
    ∃ x' y', (putF T s e)[2 * s]? = some x' ∧ (putF T s e)[2 * s + 1]? = some y' ∧ (∀ j, j ≠ 2 * s → j ≠ 2 * s + 1 → (putF T s e)[j]? = T[j]?) ∧ (x' = x ∨ x' = e) ∧ (y' = y ∨ y' = e ∨ y' = x) ∧
      (x'.u = true → y'.u = true → x'.k.toList ≠ y'.k.toList) := by
  have e1 : T.getD (2 * s) en0 = x := by rw [List.getD_eq_getElem?_getD, hx]; rfl
  have e2 : T.getD (2 * s + 1) en0 = y := by rw [List.getD_eq_getElem?_getD, hy]; rfl
  have l1 := (List.getElem?_eq_some_iff.1 hx).1
  have l2 := (List.getElem?_eq_some_iff.1 hy).1
  unfold putF
  rw [e1, e2]
  simp only
  by_cases hxm : (x.u && pkey e.k x) = true
  · rw [if_pos hxm]
    rw [Bool.and_eq_true, pkey_iff] at hxm
    split
    · refine ⟨e, y, by rw [List.getElem?_set_self l1], by rw [List.getElem?_set_ne (by omega)]; exact hy, fun j h1 h2 => List.getElem?_set_ne (by omega), .inr rfl, .inl rfl, fun _ h2 => ?_⟩
      rw [← hxm.2]
      exact hd hxm.1 h2
    · exact ⟨x, y, hx, hy, fun _ _ _ => rfl, .inl rfl, .inl rfl, hd⟩
  · rw [if_neg hxm]
    have hxn : x.u = true → x.k.toList ≠ e.k.toList := fun h1 h2 => hxm (by rw [Bool.and_eq_true, pkey_iff]; exact ⟨h1, h2⟩)
    by_cases hym : (y.u && pkey e.k y) = true
    · rw [if_pos hym]
      split
      · exact ⟨x, e, by rw [List.getElem?_set_ne (by omega)]; exact hx, by rw [List.getElem?_set_self l2], fun j h1 h2 => List.getElem?_set_ne (by omega), .inl rfl, .inr (.inl rfl), fun h1 _ => hxn h1⟩
      · exact ⟨x, y, hx, hy, fun _ _ _ => rfl, .inl rfl, .inl rfl, hd⟩
    · rw [if_neg hym]
      split
      · exact ⟨x, e, by rw [List.getElem?_set_ne (by omega)]; exact hx, by rw [List.getElem?_set_self l2], fun j h1 h2 => List.getElem?_set_ne (by omega), .inl rfl, .inr (.inl rfl), fun h1 _ => hxn h1⟩
      · refine ⟨e, x, by rw [List.getElem?_set_self (by rw [List.length_set]; exact l1)], by rw [List.getElem?_set_ne (by omega), List.getElem?_set_self l2], fun j h1 h2 => by rw [List.getElem?_set_ne (by omega), List.getElem?_set_ne (by omega)], .inr rfl, .inr (.inr rfl), fun _ h2 h3 => hxn h2 h3.symm⟩
theorem putF_len (T : List En) (s : Nat) (e : En) : (putF T s e).length = T.length := by
  unfold putF
  simp only
  split
  · split <;> simp
  · split
    · split <;> simp
    · split <;> simp
/-- what holds of a table whose keys were put by the operations L, with c different keys -/
structure InvN (n : Nat) (T : List En) (L : List Op1) (c : Nat) : Prop where
  len : T.length = 2 * n
  slot : ∀ (j : Nat) (e : En), T[j]? = some e → e.u = true → slotI e.k n = j / 2
  two : ∀ (s : Nat) (x y : En), T[2 * s]? = some x → T[2 * s + 1]? = some y → x.u = true → y.u = true → x.k.toList ≠ y.k.toList
  mem : ∀ (j : Nat) (e : En), T[j]? = some e → e.u = true → ∃ op ∈ L, op.key.toList = e.k.toList
  cnt : ∃ ks : List (List UInt8), ks.Nodup ∧ ks.length = c ∧ (∀ op ∈ L, op.key.toList ∈ ks) ∧ ∀ q ∈ ks, ∃ op ∈ L, op.key.toList = q
theorem invN_rep (n : Nat) : InvN n (List.replicate (2 * n) en0) [] 0 := by
  have hf : ∀ (j : Nat) (e : En), (List.replicate (2 * n) en0)[j]? = some e → e.u = true → False := by
    intro j e he hu
    rw [List.getElem?_replicate] at he
    split at he
    · injection he with he
      subst he
      cases hu
    · cases he
  exact ⟨by simp, fun j e he hu => (hf j e he hu).elim, fun s x y hx _ hu _ => (hf _ _ hx hu).elim, fun j e he hu => (hf j e he hu).elim, [], List.nodup_nil, rfl, by simp, by simp⟩
theorem toList_eq {a b : ByteArray} (h : a.toList = b.toList) : a = b := by
  rw [ByteArray.toList_eq, ByteArray.toList_eq] at h
  exact WideShapes.bytes_inj h
theorem InvN.put {n : Nat} {T : List En} {L : List Op1} {c : Nat} (h : InvN n T L c) (n0 : 0 < n) (op : Op1) (c' : Nat)
    (hc : ∃ ks : List (List UInt8), ks.Nodup ∧ ks.length = c' ∧ (∀ o ∈ L ++ [op], o.key.toList ∈ ks) ∧ ∀ q ∈ ks, ∃ o ∈ L ++ [op], o.key.toList = q) : InvN n (putF T (slotI op.key n) ⟨true, op.key, op.d, op.b⟩) (L ++ [op]) c' := by
  have hs : slotI op.key n < n := Nat.mod_lt _ n0
  have hl := h.len
  obtain ⟨x, hx⟩ : ∃ x, T[2 * slotI op.key n]? = some x := ⟨_, List.getElem?_eq_getElem (by omega)⟩
  obtain ⟨y, hy⟩ : ∃ y, T[2 * slotI op.key n + 1]? = some y := ⟨_, List.getElem?_eq_getElem (by omega)⟩
  obtain ⟨x', y', h1, h2, h3, h4, h5, h6⟩ := putF_slot T (slotI op.key n) ⟨true, op.key, op.d, op.b⟩ x y hx hy (h.two _ x y hx hy)
  have hnew : ∀ (j : Nat) (e : En), (putF T (slotI op.key n) ⟨true, op.key, op.d, op.b⟩)[j]? = some e → e.u = true → slotI e.k n = j / 2 ∧ ∃ o ∈ L ++ [op], o.key.toList = e.k.toList := by
    have hold : ∀ (j : Nat) (e : En), T[j]? = some e → e.u = true → slotI e.k n = j / 2 ∧ ∃ o ∈ L ++ [op], o.key.toList = e.k.toList := fun j e he hu => ⟨h.slot j e he hu, by
      obtain ⟨o, ho, h7⟩ := h.mem j e he hu
      exact ⟨o, List.mem_append_left _ ho, h7⟩⟩
    have hself : slotI (⟨true, op.key, op.d, op.b⟩ : En).k n = slotI op.key n ∧ ∃ o ∈ L ++ [op], o.key.toList = (⟨true, op.key, op.d, op.b⟩ : En).k.toList := ⟨rfl, op, by simp, rfl⟩
    intro j e he hu
    by_cases hj1 : j = 2 * slotI op.key n
    · subst hj1
      rw [h1] at he
      injection he with he
      subst he
      rcases h4 with rfl | rfl
      · exact hold _ _ hx hu
      · exact ⟨by rw [hself.1]; omega, hself.2⟩
    · by_cases hj2 : j = 2 * slotI op.key n + 1
      · subst hj2
        rw [h2] at he
        injection he with he
        subst he
        rcases h5 with rfl | rfl | rfl
        · exact hold _ _ hy hu
        · exact ⟨by rw [hself.1]; omega, hself.2⟩
        · have := hold _ _ hx hu
          exact ⟨by rw [this.1]; omega, this.2⟩
      · rw [h3 j hj1 hj2] at he
        exact hold j e he hu
  refine ⟨by rw [putF_len]; exact hl, fun j e he hu => (hnew j e he hu).1, ?_, fun j e he hu => (hnew j e he hu).2, hc⟩
  intro s u v hu hv hu1 hv1
  by_cases hss : s = slotI op.key n
  · subst hss
    rw [h1] at hu
    rw [h2] at hv
    injection hu with hu
    injection hv with hv
    subst hu
    subst hv
    exact h6 hu1 hv1
  · rw [h3 _ (by omega) (by omega)] at hu
    rw [h3 _ (by omega) (by omega)] at hv
    exact h.two s u v hu hv hu1 hv1
theorem key_pairs : ∀ (T : List En), (∀ (i j : Nat) (e f : En), i < j → T[i]? = some e → T[j]? = some f → e.u = true → f.u = true → e.k.toList ≠ f.k.toList) → ((T.filter (fun e => e.u)).map (fun e => e.k.toList)).Nodup
  | [], _ => List.nodup_nil
  | x :: T, h => by
    have h1 := key_pairs T (fun i j e f hij he hf => h (i + 1) (j + 1) e f (by omega) (by simpa using he) (by simpa using hf))
    rw [List.filter_cons]
    split
    · rw [List.map_cons, List.nodup_cons]
      refine ⟨fun hm => ?_, h1⟩
      obtain ⟨f, hf, hk⟩ := List.mem_map.1 hm
      obtain ⟨hf1, hf2⟩ := List.mem_filter.1 hf
      obtain ⟨j, hj⟩ := List.mem_iff_getElem?.1 hf1
      exact h 0 (j + 1) x f (by omega) (by simp) (by simpa using hj) (by assumption) hf2 hk.symm
    · exact h1
theorem InvN.room {n : Nat} {T : List En} {L : List Op1} {c : Nat} (h : InvN n T L c) : lenF T ≤ c ∧ lenF T ≤ 2 * n := by
  obtain ⟨ks, h1, h2, h3, _⟩ := h.cnt
  refine ⟨?_, by rw [← h.len]; exact len_le T⟩
  have hnd : ((T.filter (fun e => e.u)).map (fun e => e.k.toList)).Nodup := key_pairs T (fun i j e f hij he hf hu hv hk => by
    have s1 := h.slot i e he hu
    have s2 := h.slot j f hf hv
    rw [toList_eq hk] at s1
    have hij2 : i = 2 * (i / 2) ∧ j = 2 * (i / 2) + 1 := by omega
    rw [hij2.1] at he
    rw [hij2.2] at hf
    exact h.two (i / 2) e f (by rw [← he]) hf hu hv hk)
  have := sub_len _ ks hnd (fun q hq => by
    obtain ⟨e, he, rfl⟩ := List.mem_map.1 hq
    obtain ⟨he1, he2⟩ := List.mem_filter.1 he
    obtain ⟨j, hj⟩ := List.mem_iff_getElem?.1 he1
    obtain ⟨op, ho, hk⟩ := h.mem j e hj he2
    rw [← hk]
    exact h3 op ho)
  rw [h2, List.length_map] at this
  unfold lenF
  rw [List.countP_eq_length_filter]
  exact this
def seenB (key : ByteArray) (op : Op1) : Bool := op.key.toList == key.toList
theorem InvN.same {n : Nat} {T : List En} {L : List Op1} {c : Nat} (h : InvN n T L c) (n0 : 0 < n) (op : Op1) (hs : L.any (seenB op.key) = true) : InvN n (putF T (slotI op.key n) ⟨true, op.key, op.d, op.b⟩) (L ++ [op]) c := by
  refine h.put n0 op c ?_
  obtain ⟨ks, h1, h2, h3, h4⟩ := h.cnt
  obtain ⟨o, ho, hk⟩ := List.any_eq_true.1 hs
  refine ⟨ks, h1, h2, fun o2 ho2 => ?_, fun q hq => ?_⟩
  · rcases List.mem_append.1 ho2 with hm | hm
    · exact h3 o2 hm
    · simp only [List.mem_singleton] at hm
      rw [hm, ← (beq_iff_eq.1 hk)]
      exact h3 o ho
  · obtain ⟨o3, ho3, hk3⟩ := h4 q hq
    exact ⟨o3, List.mem_append_left _ ho3, hk3⟩
theorem InvN.new {n : Nat} {T : List En} {L : List Op1} {c : Nat} (h : InvN n T L c) (n0 : 0 < n) (op : Op1) (hs : L.any (seenB op.key) = false) : InvN n (putF T (slotI op.key n) ⟨true, op.key, op.d, op.b⟩) (L ++ [op]) (c + 1) := by
  refine h.put n0 op (c + 1) ?_
  obtain ⟨ks, h1, h2, h3, h4⟩ := h.cnt
  have hno : op.key.toList ∉ ks := fun hm => by
    obtain ⟨o, ho, hk⟩ := h4 _ hm
    have := List.any_eq_false.1 hs o ho
    exact this (by unfold seenB; rw [hk]; simp)
  refine ⟨op.key.toList :: ks, List.nodup_cons.2 ⟨hno, h1⟩, by simp [h2], fun o2 ho2 => ?_, fun q hq => ?_⟩
  · rcases List.mem_append.1 ho2 with hm | hm
    · exact List.mem_cons_of_mem _ (h3 o2 hm)
    · simp only [List.mem_singleton] at hm
      rw [hm]
      exact List.mem_cons_self
  · rcases List.mem_cons.1 hq with rfl | hq
    · exact ⟨op, by simp, rfl⟩
    · obtain ⟨o3, ho3, hk3⟩ := h4 q hq
      exact ⟨o3, List.mem_append_left _ ho3, hk3⟩
/-- a new key is found -/
theorem InvN.found {n : Nat} {T : List En} {L : List Op1} {c : Nat} (h : InvN n T L c) (n0 : 0 < n) (op : Op1) (hs : L.any (seenB op.key) = false) : getF (putF T (slotI op.key n) ⟨true, op.key, op.d, op.b⟩) (slotI op.key n) op.key op.d = some op.b := by
  have hsl : slotI op.key n < n := Nat.mod_lt _ n0
  have hl := h.len
  have hno : ∀ (j : Nat) (e : En), T[j]? = some e → (e.u && pkey op.key e) = false := by
    intro j e he
    rw [Bool.eq_false_iff]
    intro hh
    rw [Bool.and_eq_true, pkey_iff] at hh
    obtain ⟨o, ho, hk⟩ := h.mem j e he hh.1
    exact List.any_eq_false.1 hs o ho (by unfold seenB; rw [hk, hh.2]; simp)
  obtain ⟨x, hx⟩ : ∃ x, T[2 * slotI op.key n]? = some x := ⟨_, List.getElem?_eq_getElem (by omega)⟩
  obtain ⟨y, hy⟩ : ∃ y, T[2 * slotI op.key n + 1]? = some y := ⟨_, List.getElem?_eq_getElem (by omega)⟩
  have nx := hno _ _ hx
  have ny := hno _ _ hy
  have e1 : T.getD (2 * slotI op.key n) en0 = x := by rw [List.getD_eq_getElem?_getD, hx]; rfl
  have e2 : T.getD (2 * slotI op.key n + 1) en0 = y := by rw [List.getD_eq_getElem?_getD, hy]; rfl
  have l1 := (List.getElem?_eq_some_iff.1 hx).1
  have l2 := (List.getElem?_eq_some_iff.1 hy).1
  have hfit : pfit op.key op.d ⟨true, op.key, op.d, op.b⟩ = true := by simp [pfit, fitB]
  generalize slotI op.key n = s at *
  have hput : putF T s ⟨true, op.key, op.d, op.b⟩ = if x.u && decide (op.d < x.d) then T.set (2 * s + 1) ⟨true, op.key, op.d, op.b⟩ else (T.set (2 * s + 1) x).set (2 * s) ⟨true, op.key, op.d, op.b⟩ := by
    unfold putF
    rw [e1, e2]
    simp only
    rw [nx, ny]
    simp
  rw [hput]
  unfold getF
  split
  · have g1 : (T.set (2 * s + 1) ⟨true, op.key, op.d, op.b⟩).getD (2 * s) en0 = x := by rw [List.getD_eq_getElem?_getD, List.getElem?_set_ne (by omega), hx]; rfl
    have g2 : (T.set (2 * s + 1) ⟨true, op.key, op.d, op.b⟩).getD (2 * s + 1) en0 = ⟨true, op.key, op.d, op.b⟩ := by rw [List.getD_eq_getElem?_getD, List.getElem?_set_self l2]; rfl
    simp only
    rw [g1, g2, hfit]
    have hxf : (x.u && pfit op.key op.d x) = false := by
      unfold pfit fitB
      unfold pkey at nx
      cases hxu : x.u
      · rfl
      · rw [hxu, Bool.true_and] at nx
        rw [nx]; rfl
    rw [hxf]
    simp
  · have g1 : ((T.set (2 * s + 1) x).set (2 * s) ⟨true, op.key, op.d, op.b⟩).getD (2 * s) en0 = ⟨true, op.key, op.d, op.b⟩ := by rw [List.getD_eq_getElem?_getD, List.getElem?_set_self (by rw [List.length_set]; exact l1)]; rfl
    simp only
    rw [g1, hfit]
    simp
end Go.Proofs.YtggffmbhpgioaaaDoor
