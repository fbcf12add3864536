/- The walk of fraction.Parse. -/
import Derived.Test.YtjobncfjebkcdaaDoorBw
import Derived.Test.YtjobncfjebkcdaaDoorFb
namespace Go.Proofs.YtjobncfjebkcdaaDoor
open Go Go.RowKit Go.Shelf
set_option linter.unusedSimpArgs false

theorem atoi_ok {s : ByteArray} {n : Int} (h : Lib.atoiAll s.data.toList = .ok n) (hs : s.size ≤ 4294967281) (w : World) (he : Er w) : Calls Tryd.prog 48 #[.string s] w (OutB w (.tuple #[.int .i64 n, .nilIface])) :=
  (atoi_any w s hs he).mono fun e w' hy => by
    rcases hy.2 with ⟨m, hm, rfl⟩ | ⟨hm, _⟩
    · rw [h] at hm; injection hm with hm; subst hm; exact ⟨rfl, hy.1⟩
    · exact absurd h (hm n)
theorem atoi_bad {s : ByteArray} (h : ∀ n, Lib.atoiAll s.data.toList ≠ .ok n) (hs : s.size ≤ 4294967281) (w : World) (he : Er w) : Calls Tryd.prog 48 #[.string s] w (fun e w' => Below w.heap.size w w' ∧ ∃ n t p, e = .returned (.tuple #[.int .i64 n, .iface t p])) :=
  (atoi_any w s hs he).mono fun e w' hy => by
    rcases hy.2 with ⟨m, hm, _⟩ | ⟨_, n, t, p, _, he⟩
    · exact absurd hm (h m)
    · exact ⟨hy.1, n, t, p, he⟩
theorem atoi_some (s : ByteArray) (hs : s.size ≤ 4294967281) (w : World) (he : Er w) : Calls Tryd.prog 48 #[.string s] w (fun e w' => Below w.heap.size w w' ∧ ∃ n v, e = .returned (.tuple #[.int .i64 n, v])) :=
  (atoi_any w s hs he).mono fun e w' hy => by
    rcases hy.2 with ⟨m, hm, h⟩ | ⟨_, n, t, p, _, h⟩
    · exact ⟨hy.1, _, _, h⟩
    · exact ⟨hy.1, _, _, h⟩
theorem atoi_cases (l : List UInt8) : (∃ n, I64 n ∧ Lib.atoiAll l = .ok n) ∨ ∀ n, Lib.atoiAll l ≠ .ok n := by
  rcases h : Lib.atoiAll l with n | _ | _
  · exact .inl ⟨n, Lib.atoiAll_bounds h, rfl⟩
  · exact .inr fun n hn => by cases hn
  · exact .inr fun n hn => by cases hn
theorem cut_size (s : ByteArray) : (⟨(Lib.cut s.data.toList [47]).1.toArray⟩ : ByteArray).size ≤ s.size ∧ (⟨(Lib.cut s.data.toList [47]).2.1.toArray⟩ : ByteArray).size ≤ s.size := by
  have hl : s.data.toList.length = s.size := by simp
  show (Lib.cut s.data.toList [47]).1.toArray.size ≤ s.size ∧ (Lib.cut s.data.toList [47]).2.1.toArray.size ≤ s.size
  rw [List.size_toArray, List.size_toArray, ← hl]
  unfold Lib.cut
  split
  · simp; omega
  · simp
set_option maxHeartbeats 8000000 in
set_option maxRecDepth 100000 in
theorem parse_bad1 (w : World) (s a b : ByteArray) (c : Bool) (HE : Hid (Er w))
    (CC : Hid (∀ w, Calls Tryd.prog 47 #[.string s, .string ⟨#[47]⟩] w (OutB w (.tuple #[.string a, .string b, .bool c]))))
    (A1 : Hid (∀ w, Er w → Calls Tryd.prog 48 #[.string a] w (fun e w' => Below w.heap.size w w' ∧ ∃ n t p, e = .returned (.tuple #[.int .i64 n, .iface t p]))))
    (A2 : Hid (∀ w, Er w → Calls Tryd.prog 48 #[.string (if c then b else ⟨#[49]⟩)] w (fun e w' => Below w.heap.size w w' ∧ ∃ n v, e = .returned (.tuple #[.int .i64 n, v])))) :
    Calls Tryd.prog 36 #[.string s] w (OutF w (⟨0, 0⟩, 1)) := by
  cases c with
  | true =>
    rw [if_pos rfl] at A2
    go_enter Tryd.func36, Tryd.ntmps36
    go_wp2_with fail
    have HX := Lib.hid (show Bxs w (w.alloc (.cells #[.int .i64 0, .int .i64 0] 23)) _ from Bxs.one w ⟨0, 0⟩)
    generalize w.alloc (.cells #[.int .i64 0, .int .i64 0] 23) = w0 at *
    refine (CC.out w0).mono ?_
    rintro e w1 ⟨rfl, hb⟩
    replace HX := Lib.hid (HX.out.keep hb)
    clear hb
    have hE1 := Lib.hid (HE.out.below HX.out.below)
    go_wp2_with fail
    refine (A1.out w1 hE1.out).mono ?_
    rintro e w2 ⟨hb, n1, t1, p1, rfl⟩
    replace HX := Lib.hid (HX.out.keep hb)
    clear hb
    have hE2 := Lib.hid (HE.out.below HX.out.below)
    go_wp2_with fail
    refine (A2.out w2 hE2.out).mono ?_
    rintro e w3 ⟨hb, n2, v2, rfl⟩
    replace HX := Lib.hid (HX.out.keep hb)
    clear hb
    have hc := HX.out.cells
    simp only [BCells] at hc
    have hz := HX.out.froz
    have HB3 := Lib.hid HX.out.below
    replace HX := Lib.hid (show Bxs w (w3.alloc (.cells #[.int .i64 n1, .int .i64 n2] 23)) _ from HX.out.new ⟨n1, n2⟩)
    have hge := HX.out.old
    go_wp2_with fail
    refine bodyPost_ret (v := .tuple #[frV ⟨0, 0⟩, .int .i64 1]) (by simp [results, Tryd.results36, go_sem, frV, hc, hz]) rfl ?_
    have h2 := (HB3.out.setCell (p := ⟨_, 0, none⟩) (Nat.le_refl _) (.int .i64 0)).setCell (p := ⟨_, 1, none⟩) (Nat.le_refl _) (.int .i64 0)
    exact ⟨rfl, h2.alloc h2.size _⟩
  | false =>
    rw [if_neg Bool.false_ne_true] at A2
    go_enter Tryd.func36, Tryd.ntmps36
    go_wp2_with fail
    have HX := Lib.hid (show Bxs w (w.alloc (.cells #[.int .i64 0, .int .i64 0] 23)) _ from Bxs.one w ⟨0, 0⟩)
    generalize w.alloc (.cells #[.int .i64 0, .int .i64 0] 23) = w0 at *
    refine (CC.out w0).mono ?_
    rintro e w1 ⟨rfl, hb⟩
    replace HX := Lib.hid (HX.out.keep hb)
    clear hb
    have hE1 := Lib.hid (HE.out.below HX.out.below)
    go_wp2_with fail
    refine (A1.out w1 hE1.out).mono ?_
    rintro e w2 ⟨hb, n1, t1, p1, rfl⟩
    replace HX := Lib.hid (HX.out.keep hb)
    clear hb
    have hE2 := Lib.hid (HE.out.below HX.out.below)
    go_wp2_with fail
    refine (A2.out w2 hE2.out).mono ?_
    rintro e w3 ⟨hb, n2, v2, rfl⟩
    replace HX := Lib.hid (HX.out.keep hb)
    clear hb
    have hc := HX.out.cells
    simp only [BCells] at hc
    have hz := HX.out.froz
    have HB3 := Lib.hid HX.out.below
    replace HX := Lib.hid (show Bxs w (w3.alloc (.cells #[.int .i64 n1, .int .i64 n2] 23)) _ from HX.out.new ⟨n1, n2⟩)
    have hge := HX.out.old
    go_wp2_with fail
    refine bodyPost_ret (v := .tuple #[frV ⟨0, 0⟩, .int .i64 1]) (by simp [results, Tryd.results36, go_sem, frV, hc, hz]) rfl ?_
    have h2 := (HB3.out.setCell (p := ⟨_, 0, none⟩) (Nat.le_refl _) (.int .i64 0)).setCell (p := ⟨_, 1, none⟩) (Nat.le_refl _) (.int .i64 0)
    exact ⟨rfl, h2.alloc h2.size _⟩

set_option maxHeartbeats 8000000 in
set_option maxRecDepth 100000 in
theorem parse_bad2 (w : World) (s a b : ByteArray) (c : Bool) (x : Int) (HE : Hid (Er w))
    (CC : Hid (∀ w, Calls Tryd.prog 47 #[.string s, .string ⟨#[47]⟩] w (OutB w (.tuple #[.string a, .string b, .bool c]))))
    (A1 : Hid (∀ w, Er w → Calls Tryd.prog 48 #[.string a] w (OutB w (.tuple #[.int .i64 x, .nilIface]))))
    (A2 : Hid (∀ w, Er w → Calls Tryd.prog 48 #[.string (if c then b else ⟨#[49]⟩)] w (fun e w' => Below w.heap.size w w' ∧ ∃ n t p, e = .returned (.tuple #[.int .i64 n, .iface t p])))) :
    Calls Tryd.prog 36 #[.string s] w (OutF w (⟨0, 0⟩, 1)) := by
  cases c with
  | true =>
    rw [if_pos rfl] at A2
    go_enter Tryd.func36, Tryd.ntmps36
    go_wp2_with fail
    have HX := Lib.hid (show Bxs w (w.alloc (.cells #[.int .i64 0, .int .i64 0] 23)) _ from Bxs.one w ⟨0, 0⟩)
    generalize w.alloc (.cells #[.int .i64 0, .int .i64 0] 23) = w0 at *
    refine (CC.out w0).mono ?_
    rintro e w1 ⟨rfl, hb⟩
    replace HX := Lib.hid (HX.out.keep hb)
    clear hb
    have hE1 := Lib.hid (HE.out.below HX.out.below)
    go_wp2_with fail
    refine (A1.out w1 hE1.out).mono ?_
    rintro e w2 ⟨rfl, hb⟩
    replace HX := Lib.hid (HX.out.keep hb)
    clear hb
    have hE2 := Lib.hid (HE.out.below HX.out.below)
    go_wp2_with fail
    refine (A2.out w2 hE2.out).mono ?_
    rintro e w3 ⟨hb, n2, t2, p2, rfl⟩
    replace HX := Lib.hid (HX.out.keep hb)
    clear hb
    have hc := HX.out.cells
    simp only [BCells] at hc
    have hz := HX.out.froz
    have HB3 := Lib.hid HX.out.below
    replace HX := Lib.hid (show Bxs w (w3.alloc (.cells #[.int .i64 x, .int .i64 n2] 23)) _ from HX.out.new ⟨x, n2⟩)
    have hge := HX.out.old
    go_wp2_with fail
    refine bodyPost_ret (v := .tuple #[frV ⟨0, 0⟩, .int .i64 1]) (by simp [results, Tryd.results36, go_sem, frV, hc, hz]) rfl ?_
    have h2 := (HB3.out.setCell (p := ⟨_, 0, none⟩) (Nat.le_refl _) (.int .i64 0)).setCell (p := ⟨_, 1, none⟩) (Nat.le_refl _) (.int .i64 0)
    exact ⟨rfl, h2.alloc h2.size _⟩
  | false =>
    rw [if_neg Bool.false_ne_true] at A2
    go_enter Tryd.func36, Tryd.ntmps36
    go_wp2_with fail
    have HX := Lib.hid (show Bxs w (w.alloc (.cells #[.int .i64 0, .int .i64 0] 23)) _ from Bxs.one w ⟨0, 0⟩)
    generalize w.alloc (.cells #[.int .i64 0, .int .i64 0] 23) = w0 at *
    refine (CC.out w0).mono ?_
    rintro e w1 ⟨rfl, hb⟩
    replace HX := Lib.hid (HX.out.keep hb)
    clear hb
    have hE1 := Lib.hid (HE.out.below HX.out.below)
    go_wp2_with fail
    refine (A1.out w1 hE1.out).mono ?_
    rintro e w2 ⟨rfl, hb⟩
    replace HX := Lib.hid (HX.out.keep hb)
    clear hb
    have hE2 := Lib.hid (HE.out.below HX.out.below)
    go_wp2_with fail
    refine (A2.out w2 hE2.out).mono ?_
    rintro e w3 ⟨hb, n2, t2, p2, rfl⟩
    replace HX := Lib.hid (HX.out.keep hb)
    clear hb
    have hc := HX.out.cells
    simp only [BCells] at hc
    have hz := HX.out.froz
    have HB3 := Lib.hid HX.out.below
    replace HX := Lib.hid (show Bxs w (w3.alloc (.cells #[.int .i64 x, .int .i64 n2] 23)) _ from HX.out.new ⟨x, n2⟩)
    have hge := HX.out.old
    go_wp2_with fail
    refine bodyPost_ret (v := .tuple #[frV ⟨0, 0⟩, .int .i64 1]) (by simp [results, Tryd.results36, go_sem, frV, hc, hz]) rfl ?_
    have h2 := (HB3.out.setCell (p := ⟨_, 0, none⟩) (Nat.le_refl _) (.int .i64 0)).setCell (p := ⟨_, 1, none⟩) (Nat.le_refl _) (.int .i64 0)
    exact ⟨rfl, h2.alloc h2.size _⟩

set_option maxHeartbeats 8000000 in
set_option maxRecDepth 100000 in
theorem parse_ok (w : World) (s a b : ByteArray) (c : Bool) (x y : Int) (HT : Hid (Tb w)) (HE : Hid (Er w))
    (CC : Hid (∀ w, Calls Tryd.prog 47 #[.string s, .string ⟨#[47]⟩] w (OutB w (.tuple #[.string a, .string b, .bool c]))))
    (A1 : Hid (∀ w, Er w → Calls Tryd.prog 48 #[.string a] w (OutB w (.tuple #[.int .i64 x, .nilIface]))))
    (A2 : Hid (∀ w, Er w → Calls Tryd.prog 48 #[.string (if c then b else ⟨#[49]⟩)] w (OutB w (.tuple #[.int .i64 y, .nilIface]))))
    (V : Hid (∀ w, Calls Tryd.prog 12 #[.agg #[.int .i64 x, .int .i64 y]] w (OutB w (.bool true))))
    (TX : Hid (∀ w, Tb w → Calls Tryd.prog 38 #[.agg #[.int .i64 x, .int .i64 y]] w (OutB w (.string s)))) :
    Calls Tryd.prog 36 #[.string s] w (OutF w (⟨x, y⟩, 0)) := by
  cases c with
  | true =>
    rw [if_pos rfl] at A2
    go_enter Tryd.func36, Tryd.ntmps36
    go_wp2_with fail
    have HX := Lib.hid (show Bxs w (w.alloc (.cells #[.int .i64 0, .int .i64 0] 23)) _ from Bxs.one w ⟨0, 0⟩)
    generalize w.alloc (.cells #[.int .i64 0, .int .i64 0] 23) = w0 at *
    refine (CC.out w0).mono ?_
    rintro e w1 ⟨rfl, hb⟩
    replace HX := Lib.hid (HX.out.keep hb)
    clear hb
    have hE1 := Lib.hid (HE.out.below HX.out.below)
    go_wp2_with fail
    refine (A1.out w1 hE1.out).mono ?_
    rintro e w2 ⟨rfl, hb⟩
    replace HX := Lib.hid (HX.out.keep hb)
    clear hb
    have hE2 := Lib.hid (HE.out.below HX.out.below)
    go_wp2_with fail
    refine (A2.out w2 hE2.out).mono ?_
    rintro e w3 ⟨rfl, hb⟩
    replace HX := Lib.hid (HX.out.keep hb)
    clear hb
    have hc := HX.out.cells
    simp only [BCells] at hc
    have hz := HX.out.froz
    have HB3 := Lib.hid HX.out.below
    replace HX := Lib.hid (show Bxs w (w3.alloc (.cells #[.int .i64 x, .int .i64 y] 23)) _ from HX.out.new ⟨x, y⟩)
    have hge := HX.out.old
    go_wp2_with fail
    generalize w3.alloc (.cells #[.int .i64 x, .int .i64 y] 23) = w4 at *
    generalize w3.heap.size = q at *
    clear hc hz hge
    have hE4 := Lib.hid (HT.out.below HX.out.below)
    have hc := HX.out.cells
    simp only [BCells] at hc
    go_wp2_with fail
    clear hc
    refine (V.out w4).mono ?_
    rintro e w5 ⟨rfl, hb⟩
    replace HX := Lib.hid (HX.out.keep hb)
    have hT5 := Lib.hid (HT.out.below HX.out.below)
    clear hb hE4
    have hc := HX.out.cells
    simp only [BCells] at hc
    go_wp2_with fail
    clear hc
    refine (TX.out w5 hT5.out).mono ?_
    rintro e w6 ⟨rfl, hb⟩
    replace HX := Lib.hid (HX.out.keep hb)
    clear hb
    have hc := HX.out.cells
    simp only [BCells] at hc
    have hz := (cells_two (HX.out.blk (w.heap.size, ⟨0, 0⟩) (by simp))).2.2
    go_wp2_with fail
    refine bodyPost_ret (v := .tuple #[frV ⟨x, y⟩, .int .i64 0]) (by simp [results, Tryd.results36, go_sem, frV, hc, hz]) rfl ?_
    exact ⟨rfl, by have hb := HX.out.below; clear HX hc; go_grown⟩
  | false =>
    rw [if_neg Bool.false_ne_true] at A2
    go_enter Tryd.func36, Tryd.ntmps36
    go_wp2_with fail
    have HX := Lib.hid (show Bxs w (w.alloc (.cells #[.int .i64 0, .int .i64 0] 23)) _ from Bxs.one w ⟨0, 0⟩)
    generalize w.alloc (.cells #[.int .i64 0, .int .i64 0] 23) = w0 at *
    refine (CC.out w0).mono ?_
    rintro e w1 ⟨rfl, hb⟩
    replace HX := Lib.hid (HX.out.keep hb)
    clear hb
    have hE1 := Lib.hid (HE.out.below HX.out.below)
    go_wp2_with fail
    refine (A1.out w1 hE1.out).mono ?_
    rintro e w2 ⟨rfl, hb⟩
    replace HX := Lib.hid (HX.out.keep hb)
    clear hb
    have hE2 := Lib.hid (HE.out.below HX.out.below)
    go_wp2_with fail
    refine (A2.out w2 hE2.out).mono ?_
    rintro e w3 ⟨rfl, hb⟩
    replace HX := Lib.hid (HX.out.keep hb)
    clear hb
    have hc := HX.out.cells
    simp only [BCells] at hc
    have hz := HX.out.froz
    have HB3 := Lib.hid HX.out.below
    replace HX := Lib.hid (show Bxs w (w3.alloc (.cells #[.int .i64 x, .int .i64 y] 23)) _ from HX.out.new ⟨x, y⟩)
    have hge := HX.out.old
    go_wp2_with fail
    generalize w3.alloc (.cells #[.int .i64 x, .int .i64 y] 23) = w4 at *
    generalize w3.heap.size = q at *
    clear hc hz hge
    have hE4 := Lib.hid (HT.out.below HX.out.below)
    have hc := HX.out.cells
    simp only [BCells] at hc
    go_wp2_with fail
    clear hc
    refine (V.out w4).mono ?_
    rintro e w5 ⟨rfl, hb⟩
    replace HX := Lib.hid (HX.out.keep hb)
    have hT5 := Lib.hid (HT.out.below HX.out.below)
    clear hb hE4
    have hc := HX.out.cells
    simp only [BCells] at hc
    go_wp2_with fail
    clear hc
    refine (TX.out w5 hT5.out).mono ?_
    rintro e w6 ⟨rfl, hb⟩
    replace HX := Lib.hid (HX.out.keep hb)
    clear hb
    have hc := HX.out.cells
    simp only [BCells] at hc
    have hz := (cells_two (HX.out.blk (w.heap.size, ⟨0, 0⟩) (by simp))).2.2
    go_wp2_with fail
    refine bodyPost_ret (v := .tuple #[frV ⟨x, y⟩, .int .i64 0]) (by simp [results, Tryd.results36, go_sem, frV, hc, hz]) rfl ?_
    exact ⟨rfl, by have hb := HX.out.below; clear HX hc; go_grown⟩

set_option maxHeartbeats 8000000 in
set_option maxRecDepth 100000 in
theorem parse_off (w : World) (s a b : ByteArray) (c : Bool) (x y : Int) (tx : ByteArray) (hd : (tx.toList == s.toList) = false) (HT : Hid (Tb w)) (HE : Hid (Er w))
    (CC : Hid (∀ w, Calls Tryd.prog 47 #[.string s, .string ⟨#[47]⟩] w (OutB w (.tuple #[.string a, .string b, .bool c]))))
    (A1 : Hid (∀ w, Er w → Calls Tryd.prog 48 #[.string a] w (OutB w (.tuple #[.int .i64 x, .nilIface]))))
    (A2 : Hid (∀ w, Er w → Calls Tryd.prog 48 #[.string (if c then b else ⟨#[49]⟩)] w (OutB w (.tuple #[.int .i64 y, .nilIface]))))
    (V : Hid (∀ w, Calls Tryd.prog 12 #[.agg #[.int .i64 x, .int .i64 y]] w (OutB w (.bool true))))
    (TX : Hid (∀ w, Tb w → Calls Tryd.prog 38 #[.agg #[.int .i64 x, .int .i64 y]] w (OutB w (.string tx)))) :
    Calls Tryd.prog 36 #[.string s] w (OutF w (⟨0, 0⟩, 1)) := by
  cases c with
  | true =>
    rw [if_pos rfl] at A2
    go_enter Tryd.func36, Tryd.ntmps36
    go_wp2_with fail
    have HX := Lib.hid (show Bxs w (w.alloc (.cells #[.int .i64 0, .int .i64 0] 23)) _ from Bxs.one w ⟨0, 0⟩)
    generalize w.alloc (.cells #[.int .i64 0, .int .i64 0] 23) = w0 at *
    refine (CC.out w0).mono ?_
    rintro e w1 ⟨rfl, hb⟩
    replace HX := Lib.hid (HX.out.keep hb)
    clear hb
    have hE1 := Lib.hid (HE.out.below HX.out.below)
    go_wp2_with fail
    refine (A1.out w1 hE1.out).mono ?_
    rintro e w2 ⟨rfl, hb⟩
    replace HX := Lib.hid (HX.out.keep hb)
    clear hb
    have hE2 := Lib.hid (HE.out.below HX.out.below)
    go_wp2_with fail
    refine (A2.out w2 hE2.out).mono ?_
    rintro e w3 ⟨rfl, hb⟩
    replace HX := Lib.hid (HX.out.keep hb)
    clear hb
    have hc := HX.out.cells
    simp only [BCells] at hc
    have hz := HX.out.froz
    have HB3 := Lib.hid HX.out.below
    replace HX := Lib.hid (show Bxs w (w3.alloc (.cells #[.int .i64 x, .int .i64 y] 23)) _ from HX.out.new ⟨x, y⟩)
    have hge := HX.out.old
    go_wp2_with fail
    generalize w3.alloc (.cells #[.int .i64 x, .int .i64 y] 23) = w4 at *
    generalize w3.heap.size = q at *
    clear hc hz hge
    have hE4 := Lib.hid (HT.out.below HX.out.below)
    have hc := HX.out.cells
    simp only [BCells] at hc
    go_wp2_with fail
    clear hc
    refine (V.out w4).mono ?_
    rintro e w5 ⟨rfl, hb⟩
    replace HX := Lib.hid (HX.out.keep hb)
    have hT5 := Lib.hid (HT.out.below HX.out.below)
    clear hb hE4
    have hc := HX.out.cells
    simp only [BCells] at hc
    go_wp2_with fail
    clear hc
    refine (TX.out w5 hT5.out).mono ?_
    rintro e w6 ⟨rfl, hb⟩
    replace HX := Lib.hid (HX.out.keep hb)
    clear hb
    have hc := HX.out.cells
    simp only [BCells] at hc
    have hz := (cells_two (HX.out.blk (w.heap.size, ⟨0, 0⟩) (by simp))).2.2
    go_wp2_with fail
    refine bodyPost_ret (v := .tuple #[frV ⟨0, 0⟩, .int .i64 1]) (by simp [results, Tryd.results36, go_sem, frV, hc, hz]) rfl ?_
    exact ⟨rfl, by have hb := HX.out.below; clear HX hc; go_grown⟩
  | false =>
    rw [if_neg Bool.false_ne_true] at A2
    go_enter Tryd.func36, Tryd.ntmps36
    go_wp2_with fail
    have HX := Lib.hid (show Bxs w (w.alloc (.cells #[.int .i64 0, .int .i64 0] 23)) _ from Bxs.one w ⟨0, 0⟩)
    generalize w.alloc (.cells #[.int .i64 0, .int .i64 0] 23) = w0 at *
    refine (CC.out w0).mono ?_
    rintro e w1 ⟨rfl, hb⟩
    replace HX := Lib.hid (HX.out.keep hb)
    clear hb
    have hE1 := Lib.hid (HE.out.below HX.out.below)
    go_wp2_with fail
    refine (A1.out w1 hE1.out).mono ?_
    rintro e w2 ⟨rfl, hb⟩
    replace HX := Lib.hid (HX.out.keep hb)
    clear hb
    have hE2 := Lib.hid (HE.out.below HX.out.below)
    go_wp2_with fail
    refine (A2.out w2 hE2.out).mono ?_
    rintro e w3 ⟨rfl, hb⟩
    replace HX := Lib.hid (HX.out.keep hb)
    clear hb
    have hc := HX.out.cells
    simp only [BCells] at hc
    have hz := HX.out.froz
    have HB3 := Lib.hid HX.out.below
    replace HX := Lib.hid (show Bxs w (w3.alloc (.cells #[.int .i64 x, .int .i64 y] 23)) _ from HX.out.new ⟨x, y⟩)
    have hge := HX.out.old
    go_wp2_with fail
    generalize w3.alloc (.cells #[.int .i64 x, .int .i64 y] 23) = w4 at *
    generalize w3.heap.size = q at *
    clear hc hz hge
    have hE4 := Lib.hid (HT.out.below HX.out.below)
    have hc := HX.out.cells
    simp only [BCells] at hc
    go_wp2_with fail
    clear hc
    refine (V.out w4).mono ?_
    rintro e w5 ⟨rfl, hb⟩
    replace HX := Lib.hid (HX.out.keep hb)
    have hT5 := Lib.hid (HT.out.below HX.out.below)
    clear hb hE4
    have hc := HX.out.cells
    simp only [BCells] at hc
    go_wp2_with fail
    clear hc
    refine (TX.out w5 hT5.out).mono ?_
    rintro e w6 ⟨rfl, hb⟩
    replace HX := Lib.hid (HX.out.keep hb)
    clear hb
    have hc := HX.out.cells
    simp only [BCells] at hc
    have hz := (cells_two (HX.out.blk (w.heap.size, ⟨0, 0⟩) (by simp))).2.2
    go_wp2_with fail
    refine bodyPost_ret (v := .tuple #[frV ⟨0, 0⟩, .int .i64 1]) (by simp [results, Tryd.results36, go_sem, frV, hc, hz]) rfl ?_
    exact ⟨rfl, by have hb := HX.out.below; clear HX hc; go_grown⟩

set_option maxHeartbeats 8000000 in
set_option maxRecDepth 100000 in
theorem parse_inv (w : World) (s a b : ByteArray) (c : Bool) (x y : Int) (HE : Hid (Er w))
    (CC : Hid (∀ w, Calls Tryd.prog 47 #[.string s, .string ⟨#[47]⟩] w (OutB w (.tuple #[.string a, .string b, .bool c]))))
    (A1 : Hid (∀ w, Er w → Calls Tryd.prog 48 #[.string a] w (OutB w (.tuple #[.int .i64 x, .nilIface]))))
    (A2 : Hid (∀ w, Er w → Calls Tryd.prog 48 #[.string (if c then b else ⟨#[49]⟩)] w (OutB w (.tuple #[.int .i64 y, .nilIface]))))
    (V : Hid (∀ w, Calls Tryd.prog 12 #[.agg #[.int .i64 x, .int .i64 y]] w (OutB w (.bool false)))) :
    Calls Tryd.prog 36 #[.string s] w (OutF w (⟨0, 0⟩, 1)) := by
  cases c with
  | true =>
    rw [if_pos rfl] at A2
    go_enter Tryd.func36, Tryd.ntmps36
    go_wp2_with fail
    have HX := Lib.hid (show Bxs w (w.alloc (.cells #[.int .i64 0, .int .i64 0] 23)) _ from Bxs.one w ⟨0, 0⟩)
    generalize w.alloc (.cells #[.int .i64 0, .int .i64 0] 23) = w0 at *
    refine (CC.out w0).mono ?_
    rintro e w1 ⟨rfl, hb⟩
    replace HX := Lib.hid (HX.out.keep hb)
    clear hb
    have hE1 := Lib.hid (HE.out.below HX.out.below)
    go_wp2_with fail
    refine (A1.out w1 hE1.out).mono ?_
    rintro e w2 ⟨rfl, hb⟩
    replace HX := Lib.hid (HX.out.keep hb)
    clear hb
    have hE2 := Lib.hid (HE.out.below HX.out.below)
    go_wp2_with fail
    refine (A2.out w2 hE2.out).mono ?_
    rintro e w3 ⟨rfl, hb⟩
    replace HX := Lib.hid (HX.out.keep hb)
    clear hb
    have hc := HX.out.cells
    simp only [BCells] at hc
    have hz := HX.out.froz
    have HB3 := Lib.hid HX.out.below
    replace HX := Lib.hid (show Bxs w (w3.alloc (.cells #[.int .i64 x, .int .i64 y] 23)) _ from HX.out.new ⟨x, y⟩)
    have hge := HX.out.old
    go_wp2_with fail
    generalize w3.alloc (.cells #[.int .i64 x, .int .i64 y] 23) = w4 at *
    generalize w3.heap.size = q at *
    clear hc hz hge
    have hc := HX.out.cells
    simp only [BCells] at hc
    go_wp2_with fail
    clear hc
    refine (V.out w4).mono ?_
    rintro e w5 ⟨rfl, hb⟩
    replace HX := Lib.hid (HX.out.keep hb)
    clear hb
    have hc := HX.out.cells
    simp only [BCells] at hc
    have hz := (cells_two (HX.out.blk (w.heap.size, ⟨0, 0⟩) (by simp))).2.2
    go_wp2_with fail
    refine bodyPost_ret (v := .tuple #[frV ⟨0, 0⟩, .int .i64 1]) (by simp [results, Tryd.results36, go_sem, frV, hc, hz]) rfl ?_
    exact ⟨rfl, by have hb := HX.out.below; clear HX hc; go_grown⟩
  | false =>
    rw [if_neg Bool.false_ne_true] at A2
    go_enter Tryd.func36, Tryd.ntmps36
    go_wp2_with fail
    have HX := Lib.hid (show Bxs w (w.alloc (.cells #[.int .i64 0, .int .i64 0] 23)) _ from Bxs.one w ⟨0, 0⟩)
    generalize w.alloc (.cells #[.int .i64 0, .int .i64 0] 23) = w0 at *
    refine (CC.out w0).mono ?_
    rintro e w1 ⟨rfl, hb⟩
    replace HX := Lib.hid (HX.out.keep hb)
    clear hb
    have hE1 := Lib.hid (HE.out.below HX.out.below)
    go_wp2_with fail
    refine (A1.out w1 hE1.out).mono ?_
    rintro e w2 ⟨rfl, hb⟩
    replace HX := Lib.hid (HX.out.keep hb)
    clear hb
    have hE2 := Lib.hid (HE.out.below HX.out.below)
    go_wp2_with fail
    refine (A2.out w2 hE2.out).mono ?_
    rintro e w3 ⟨rfl, hb⟩
    replace HX := Lib.hid (HX.out.keep hb)
    clear hb
    have hc := HX.out.cells
    simp only [BCells] at hc
    have hz := HX.out.froz
    have HB3 := Lib.hid HX.out.below
    replace HX := Lib.hid (show Bxs w (w3.alloc (.cells #[.int .i64 x, .int .i64 y] 23)) _ from HX.out.new ⟨x, y⟩)
    have hge := HX.out.old
    go_wp2_with fail
    generalize w3.alloc (.cells #[.int .i64 x, .int .i64 y] 23) = w4 at *
    generalize w3.heap.size = q at *
    clear hc hz hge
    have hc := HX.out.cells
    simp only [BCells] at hc
    go_wp2_with fail
    clear hc
    refine (V.out w4).mono ?_
    rintro e w5 ⟨rfl, hb⟩
    replace HX := Lib.hid (HX.out.keep hb)
    clear hb
    have hc := HX.out.cells
    simp only [BCells] at hc
    have hz := (cells_two (HX.out.blk (w.heap.size, ⟨0, 0⟩) (by simp))).2.2
    go_wp2_with fail
    refine bodyPost_ret (v := .tuple #[frV ⟨0, 0⟩, .int .i64 1]) (by simp [results, Tryd.results36, go_sem, frV, hc, hz]) rfl ?_
    exact ⟨rfl, by have hb := HX.out.below; clear HX hc; go_grown⟩

theorem bs_off {l : List UInt8} {s : ByteArray} (h : l ≠ s.data.toList) : ((⟨l.toArray⟩ : ByteArray).toList == s.toList) = false := by
  rw [ByteArray.toList_eq, ByteArray.toList_eq]
  exact beq_eq_false_iff_ne.2 h
theorem parse_any (w : World) (s : ByteArray) (hs : s.size ≤ 4294967280) (ht : Tb w) (he : Er w) : Calls Tryd.prog 36 #[.string s] w (OutF w (parseF s.data.toList)) := by
  have CC := Lib.hid (fun w => cut_any w s (by omega))
  obtain ⟨z1, z2⟩ := cut_size s
  have e1 : (⟨(Lib.cut s.data.toList [47]).1.toArray⟩ : ByteArray).data.toList = (Lib.cut s.data.toList [47]).1 := rfl
  have e2 : (if (Lib.cut s.data.toList [47]).2.2 then (⟨(Lib.cut s.data.toList [47]).2.1.toArray⟩ : ByteArray) else ⟨#[49]⟩).data.toList = denS s.data.toList := by unfold denS; split <;> rfl
  have z3 : (if (Lib.cut s.data.toList [47]).2.2 then (⟨(Lib.cut s.data.toList [47]).2.1.toArray⟩ : ByteArray) else ⟨#[49]⟩).size ≤ 4294967281 := by
    split
    · omega
    · show 1 ≤ _; omega
  rcases atoi_cases (Lib.cut s.data.toList [47]).1 with ⟨x, hx, h1⟩ | h1
  rotate_left
  · have hp : parseF s.data.toList = (⟨0, 0⟩, 1) := by
      unfold parseF candF
      rcases h : Lib.atoiAll (Lib.cut s.data.toList [47]).1 with n | _ | _
      · exact absurd h (h1 n)
      · rfl
      · rfl
    rw [hp]
    exact parse_bad1 w s _ _ _ (Lib.hid he) CC (Lib.hid (fun w he => atoi_bad (by rw [e1]; exact h1) (by omega) w he)) (Lib.hid (fun w he => atoi_some _ z3 w he))
  rcases atoi_cases (denS s.data.toList) with ⟨y, hy, h2⟩ | h2
  rotate_left
  · have hp : parseF s.data.toList = (⟨0, 0⟩, 1) := by
      unfold parseF candF
      rw [h1]
      rcases h : Lib.atoiAll (denS s.data.toList) with n | _ | _
      · exact absurd h (h2 n)
      · rfl
      · rfl
    rw [hp]
    exact parse_bad2 w s _ _ _ x (Lib.hid he) CC (Lib.hid (fun w he => atoi_ok (by rw [e1]; exact h1) (by omega) w he)) (Lib.hid (fun w he => atoi_bad (by rw [e2]; exact h2) z3 w he))
  have hc : candF s.data.toList = some ⟨x, y⟩ := by unfold candF; rw [h1, h2]
  have A1 := Lib.hid (fun w he => atoi_ok (s := ⟨(Lib.cut s.data.toList [47]).1.toArray⟩) (n := x) (by rw [e1]; exact h1) (by omega) w he)
  have A2 := Lib.hid (fun w he => atoi_ok (n := y) (by rw [e2]; exact h2) z3 w he)
  have V := Lib.hid (fun w => valid_any w ⟨x, y⟩ ⟨hx, hy⟩)
  have TX := Lib.hid (fun w ht => text_any w ⟨x, y⟩ ⟨hx, hy⟩ ht)
  by_cases hv : FrOk ⟨x, y⟩
  rotate_left
  · have hp : parseF s.data.toList = (⟨0, 0⟩, 1) := by unfold parseF; rw [hc]; exact if_neg (fun h => hv h.1)
    rw [hp]
    rw [show decide (FrOk ⟨x, y⟩) = false from by simp [hv]] at V
    exact parse_inv w s _ _ _ x y (Lib.hid he) CC A1 A2 V
  rw [show decide (FrOk ⟨x, y⟩) = true from by simp [hv]] at V
  by_cases hq : textF ⟨x, y⟩ = s.data.toList
  · have hp : parseF s.data.toList = (⟨x, y⟩, 0) := by unfold parseF; rw [hc]; exact if_pos ⟨hv, hq⟩
    rw [hp]
    rw [hq] at TX
    exact parse_ok w s _ _ _ x y (Lib.hid ht) (Lib.hid he) CC A1 A2 V TX
  · have hp : parseF s.data.toList = (⟨0, 0⟩, 1) := by unfold parseF; rw [hc]; exact if_neg (fun h => hq h.2)
    rw [hp]
    exact parse_off w s _ _ _ x y _ (bs_off hq) (Lib.hid ht) (Lib.hid he) CC A1 A2 V TX
end Go.Proofs.YtjobncfjebkcdaaDoor
