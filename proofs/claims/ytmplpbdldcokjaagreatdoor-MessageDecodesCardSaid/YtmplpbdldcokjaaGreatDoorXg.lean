/- Merged texts: The text of a term, plain. The walks of term.write and term.Text. -/
import Derived.Test.YtmplpbdldcokjaaGreatDoorXa
import Derived.Test.YtmplpbdldcokjaaGreatDoorSh
import Derived.Test.YtmplpbdldcokjaaGreatDoorSb
import Derived.Test.YtmplpbdldcokjaaGreatDoorXi
import Derived.Lib.Hide
namespace Go.Proofs.YtmplpbdldcokjaaGreatDoor
/- The text of a term, plain. -/
section
open Go Go.RowKit
set_option linter.unusedSimpArgs false

mutual
/-- the text of a term -/
def textT : Tm → List UInt8
  | .mk nm [] => nm
  | .mk nm (t :: l) => nm ++ 40 :: (textT t ++ (textR l ++ [41]))
def textR : List Tm → List UInt8
  | [] => []
  | t :: l => 44 :: (textT t ++ textR l)
end
mutual
/-- names' bytes and parts -/
def wT : Tm → Nat
  | .mk nm l => nm.length + 1 + wL l
def wL : List Tm → Nat
  | [] => 0
  | t :: l => wT t + wL l
end
/-- the text of the first arguments -/
def textA : List Tm → List UInt8
  | [] => []
  | t :: l => textT t ++ textR l
theorem textR_snoc (l : List Tm) (t : Tm) : textR (l ++ [t]) = textR l ++ 44 :: textT t := by
  induction l with
  | nil => simp [textR]
  | cons u l ih => rw [List.cons_append, textR, ih, textR]; simp
theorem textA_take {l : List Tm} {k : Nat} {t : Tm} (h : l[k]? = some t) : textA (l.take (k + 1)) = textA (l.take k) ++ ((if k = 0 then [] else [44]) ++ textT t) := by
  obtain ⟨h1, h2⟩ := List.getElem?_eq_some_iff.1 h
  rw [List.take_succ_eq_append_getElem h1, h2]
  cases k with
  | zero => simp [textA, textR]
  | succ k =>
    match l, h1 with
    | u :: l, h1 =>
      rw [List.take_succ_cons, List.cons_append, textA, textR_snoc, textA]
      simp
theorem textT_node (nm : List UInt8) (l : List Tm) (h : l ≠ []) : textT (.mk nm l) = nm ++ 40 :: (textA l ++ [41]) := by
  match l, h with
  | t :: l, _ => rw [textT, textA]; simp
mutual
theorem textT_len : ∀ t : Tm, (textT t).length + 1 ≤ 2 * wT t
  | .mk nm [] => by rw [textT, wT]; omega
  | .mk nm (t :: l) => by
    have h1 := textT_len t
    have h2 := textR_len l
    rw [textT, wT, wL]
    simp only [List.length_append, List.length_cons, List.length_nil]
    omega
theorem textR_len : ∀ l : List Tm, (textR l).length ≤ 2 * wL l
  | [] => by simp [textR]
  | t :: l => by
    have h1 := textT_len t
    have h2 := textR_len l
    rw [textR, wL]
    simp only [List.length_append, List.length_cons]
    omega
end

end
/- The walks of term.write and term.Text. -/
section
open Go Go.RowKit Go.Shelf
set_option linter.unusedSimpArgs false

def OutB (w : World) (v : Value) (e : Ending) (w' : World) : Prop := e = .returned v ∧ Below w.heap.size w w'
abbrev IsB (B b : Nat) (xs : List UInt8) (w : World) : Prop := Lib.IsBuilderF 64 5 B b (Lib.byteCells xs) w
abbrev OK5 (b : Nat) (w w' : World) : Prop := Lib.OthersKept 5 (some b) w w'
theorem own_keepF {w w' : World} {base : Nat} {e : TypeId} {size : Nat} {v : Value} {n : Nat} {xs : List Value} (h : w.ownsRowF base e size v n xs) (hb : Below w.heap.size w w') : w'.ownsRowF base e size v n xs :=
  ⟨h.1, h.2.imp id fun ⟨g, cap, cur, fz, hv, hbs, hg, r⟩ => ⟨g, cap, cur, fz, hv, hbs, (hb.block g (Array.getElem?_eq_some_iff.1 hg).1).trans hg, r⟩⟩
theorem bat_keep {T e : TypeId} {B b : Nat} {p : Value} {bs : List Value} {w w' : World} (h : Lib.BuilderAtF T e B b p bs w) (hb : Below w.heap.size w w') : Lib.BuilderAtF T e B b p bs w' := by
  obtain ⟨h1, v, hv, ho, hne⟩ := h
  exact ⟨h1, v, (hb.block b (Array.getElem?_eq_some_iff.1 hv).1).trans hv, own_keepF ho hb, hne⟩
theorem isb_keep {B b : Nat} {xs : List UInt8} {w w' : World} (h : IsB B b xs w) (hb : Below w.heap.size w w') : IsB B b xs w' := h.imp (bat_keep · hb) (bat_keep · hb)
theorem IsB.lt {B b : Nat} {xs : List UInt8} {w : World} (h : IsB B b xs w) : b < w.heap.size ∧ B ≤ b := by
  rcases h with h | h <;> exact ⟨h.lt, h.1⟩
theorem bcells (l : List UInt8) : Lib.strCells ⟨l.toArray⟩ = Lib.byteCells l := by rw [Lib.strCells_eq]
theorem builder_new (w : World) : IsB w.heap.size w.heap.size [] (w.alloc (.cells #[.pointer none, .slice none 0 0] 64)) :=
  .inl ⟨Nat.le_refl _, _, heap_alloc_new w _, World.ownsRowF_nil _ _ _ _, by simp [Value.ownBlock]⟩
/-- what writing leaves as it was -/
def Fr5 (B b : Nat) (w w' : World) : Prop := Below B w w' ∧ OK5 b w w'
theorem Fr5.refl (B b : Nat) (w : World) : Fr5 B b w w := ⟨Below.refl _ _, Lib.OthersKept.refl _ _ _⟩
theorem Fr5.trans {B b : Nat} {a c d : World} (h : Fr5 B b a c) (k : Fr5 B b c d) : Fr5 B b a d := ⟨h.1.trans k.1, h.2.trans k.2⟩
theorem Fr5.alloc {B b : Nat} {a c : World} (h : Fr5 B b a c) (hB : B ≤ c.heap.size) (o : Obj) : Fr5 B b a (c.alloc o) := ⟨h.1.alloc hB o, h.2.alloc o⟩
theorem Fr5.blk {B b q : Nat} {a c : World} (h : Fr5 B b a c) {cs : Array Value} {t : TypeId} (hq : a.heap[q]? = some (.cells cs t (0, 0))) (hne : q ≠ b) (ht : t ≠ 5) : c.heap[q]? = some (.cells cs t (0, 0)) :=
  h.2 q _ hq (by simpa using hne) (fun _ _ he => by injection he with h1 h2; exact ht h2)
def WrP (B b : Nat) (w : World) (xs : List UInt8) (e : Ending) (w' : World) : Prop := e = .returned (.tuple #[]) ∧ IsB B b xs w' ∧ Fr5 B b w w'
theorem wstr_l (B b : Nat) (xs ys : List UInt8) (w : World) (h : IsB B b xs w) (hl : xs.length + ys.length ≤ 1000000000) (hB : B ≤ w.heap.size) :
    Calls Tryz.prog 61 #[.pointer (some ⟨b, 0, none⟩), .string (bs ys)] w fun e w' => (∃ n, e = .returned (.tuple #[.int .i64 n, .nilIface])) ∧ IsB B b (xs ++ ys) w' ∧ Fr5 B b w w' :=
  (wstr_k B b (Lib.byteCells xs) ⟨ys.toArray⟩ w h (by rw [Lib.byteCells_length]; show xs.length + ys.toArray.size ≤ _; rw [List.size_toArray]; omega) hB).mono fun e w' hy => ⟨⟨_, hy.1⟩, .inr (by rw [Lib.byteCells_append, ← bcells ys]; exact hy.2.1), hy.2.2⟩
theorem wbyte_l (B b : Nat) (xs : List UInt8) (c : UInt8) (n : Int) (hc : (c.toNat : Int) = n) (w : World) (h : IsB B b xs w) (hl : xs.length ≤ 1000000000) (hB : B ≤ w.heap.size) :
    Calls Tryz.prog 44 #[.pointer (some ⟨b, 0, none⟩), .int .u8 n] w fun e w' => e = .returned .nilIface ∧ IsB B b (xs ++ [c]) w' ∧ Fr5 B b w w' :=
  (wbyte_k B b (Lib.byteCells xs) n w h (by rw [Lib.byteCells_length]; omega) hB).mono fun e w' hy => ⟨hy.1, .inr (by rw [Lib.byteCells_append, show Lib.byteCells [c] = [.int .u8 (c.toNat : Int)] from rfl, hc]; exact hy.2.1), hy.2.2⟩

theorem one_box (w : World) (o1 : Obj) : Below w.heap.size w (w.alloc o1) ∧ (w.alloc o1).heap[w.heap.size]? = some o1 :=
  ⟨(Below.refl _ _).alloc (Nat.le_refl _) _, heap_alloc_new w o1⟩
theorem two_box (w : World) (o1 o2 : Obj) : Below w.heap.size w ((w.alloc o1).alloc o2) ∧ ((w.alloc o1).alloc o2).heap[w.heap.size]? = some o1 ∧ ((w.alloc o1).alloc o2).heap[w.heap.size + 1]? = some o2 :=
  ⟨((Below.refl _ _).alloc (Nat.le_refl _) _).alloc (by simp) _, (Below.heap_alloc _ _ _ (by simp)).trans (heap_alloc_new w o1), by have := heap_alloc_new (w.alloc o1) o2; simpa using this⟩
theorem cell_blk {w : World} {b : Nat} {cs : Array Value} {t : TypeId} (h : w.heap[b]? = some (.cells cs t (0, 0))) (i : Nat) : w.cell? ⟨b, i, none⟩ = cs[i]? := cell_of_row w b i cs t (0, 0) h
theorem TmV.parts {w : World} {P : Nat → Prop} {nm : List UInt8} {A : Option Addr} {cap : Nat} {l : List Tm} (h : TmV w P [.string (bs nm), .slice A l.length cap] (.mk nm l)) :
    ∃ xs : List (List Value), xs.length = l.length ∧ Arr w P A 2 xs ∧ ∀ (i : Nat) (x : List Value) (t : Tm), xs[i]? = some x → l[i]? = some t → TmV w P x t := by
  generalize hx : [Value.string (bs nm), Value.slice A l.length cap] = c at h
  generalize ht : Tm.mk nm l = t at h
  cases h with
  | mk nm' A' cap' l' xs hl ha hv =>
    injection ht with h1 h2
    subst h1
    subst h2
    simp only [List.cons.injEq, Value.slice.injEq, and_true, true_and] at hx
    obtain ⟨rfl, _⟩ := hx
    exact ⟨xs, hl, ha, hv⟩
theorem wL_at : ∀ {l : List Tm} {k : Nat} {t : Tm}, l[k]? = some t → wT t + wL (l.take k) ≤ wL l ∧ wT t ≤ wL l
  | [], k, t, h => by simp at h
  | u :: l, 0, t, h => by
    simp at h
    subst h
    simp [wL]
  | u :: l, k + 1, t, h => by
    have := wL_at (l := l) (k := k) (t := t) (by simpa using h)
    rw [List.take_succ_cons, wL, wL]
    omega
theorem wT_pos (t : Tm) : 1 ≤ wT t := by
  cases t with
  | mk nm l => rw [wT]; omega
theorem wL_len : ∀ l : List Tm, l.length ≤ wL l
  | [] => by simp [wL]
  | t :: l => by
    have h1 := wT_pos t
    have h2 := wL_len l
    rw [wL, List.length_cons]
    omega
theorem textA_len (l : List Tm) : (textA l).length ≤ 2 * wL l := by
  cases l with
  | nil => simp [textA]
  | cons t l =>
    have h1 := textT_len t
    have h2 := textR_len l
    rw [textA, wL, List.length_append]
    omega

set_option maxHeartbeats 8000000 in
set_option maxRecDepth 100000 in
theorem write_any (N : Nat) : ∀ (t : Tm) (w : World) (B b : Nat) (xs : List UInt8) (nm : List UInt8) (A : Option Addr) (cp : Nat) (l : List Tm), wT t ≤ N → t = .mk nm l → TmV w (· < B) [.string (bs nm), .slice A l.length cp] t →
    IsB B b xs w → B ≤ w.heap.size → xs.length + 2 * wT t ≤ 900000000 →
    Calls Tryz.prog 82 #[.pointer (some ⟨b, 0, none⟩), .agg #[.string (bs nm), .slice A l.length cp]] w (WrP B b w (xs ++ textT t)) := by
  induction N with
  | zero =>
    intro t w B b xs nm A cp l hN ht
    subst ht
    rw [wT] at hN
    omega
  | succ N ih =>
    intro t w B b xs nm A cp l hN ht hv hi hB hlen
    subst ht
    rw [wT] at hN hlen
    have IH := Lib.hid ih
    have HBX := Lib.hid (one_box w (.cells #[.string (bs nm), .slice A l.length cp] 25))
    obtain ⟨xs', hxl, harr, hel⟩ := hv.parts
    have HV := Lib.hid (And.intro hxl (And.intro harr hel))
    have hbl := hi.lt.1
    have hqb : w.heap.size ≠ b := by omega
    have HI := Lib.hid (isb_keep hi HBX.out.1)
    have HF := Lib.hid ((Fr5.refl B b w).alloc hB (.cells #[.string (bs nm), .slice A l.length cp] 25))
    clear ih hv hi hxl harr hel
    have hB0 : B ≤ (w.alloc (.cells #[.string (bs nm), .slice A l.length cp] 25)).heap.size := Nat.le_trans hB HBX.out.1.size
    by_cases hl0 : l = []
    · subst hl0
      rw [textT]
      go_enter Tryz.func82, Tryz.ntmps82
      go_wp2_with fail
      generalize w.alloc (.cells #[.string (bs nm), .slice A ([] : List Tm).length cp] 25) = w0 at *
      refine (wstr_l B b xs nm w0 HI.out (by omega) hB0).mono ?_
      rintro e w1 ⟨⟨n1, rfl⟩, hi1, hf1⟩
      have HBX1 := Lib.hid (hf1.blk HBX.out.2 hqb (by decide))
      have HI1 := Lib.hid hi1
      have HF1 := Lib.hid (HF.out.trans hf1)
      clear hi1 hf1
      have c1 := cell_blk HBX1.out 1
      go_wp2_with fail
      go_end0
      exact ⟨rfl, HI1.out, HF1.out⟩
    have hne : 0 < l.length := List.length_pos_iff.2 hl0
    have HT := Lib.hid (textT_node nm l hl0)
    have hz : ((l.length : Int) == 0) = false := by simp; omega
    have hll := wL_len l
    have hlb : l.length ≤ 450000000 := by omega
    clear hl0
    go_enter Tryz.func82, Tryz.ntmps82
    go_wp2_with fail
    generalize w.alloc (.cells #[.string (bs nm), .slice A l.length cp] 25) = w0 at *
    refine (wstr_l B b xs nm w0 HI.out (by omega) hB0).mono ?_
    rintro e w1 ⟨⟨n1, rfl⟩, hi1, hf1⟩
    have HBX1 := Lib.hid (hf1.blk HBX.out.2 hqb (by decide))
    have HI1 := Lib.hid hi1
    have HF1 := Lib.hid (HF.out.trans hf1)
    clear hi1 hf1 HI HBX HF hB0
    have c1 := cell_blk HBX1.out 1
    go_wp2_with fail
    clear c1
    have hB1 : B ≤ w1.heap.size := Nat.le_trans hB HF1.out.1.size
    refine (wbyte_l B b (xs ++ nm) 40 40 (by rfl) w1 HI1.out (by simp; omega) hB1).mono ?_
    rintro e w2 ⟨rfl, hi2, hf2⟩
    have HBX2 := Lib.hid (hf2.blk HBX1.out hqb (by decide))
    have HI2 := Lib.hid hi2
    have HF2 := Lib.hid (HF1.out.trans hf2)
    clear hi2 hf2 HI1 HBX1 HF1 hB1
    have c1 := cell_blk HBX2.out 1
    go_wp2_with fail
    clear c1
    go_loopw [19] (fun i wr => ∃ k : Nat, k ≤ l.length ∧ i = .int .i64 k ∧ Hid (IsB B b (xs ++ nm ++ [40] ++ textA (l.take k)) wr ∧ Fr5 B b w wr)) (fun i _ => l.length - (intOf i).toNat)
    case atStart => exact ⟨0, Nat.zero_le _, rfl, by rw [List.take_zero, textA, List.append_nil]; exact HI2.out, HF2.out⟩
    case round =>
      clear HI2 HF2 HBX2
      obtain ⟨k, hk, rfl, HX⟩ := hrel
      have hBr : B ≤ wr.heap.size := Nat.le_trans hB HX.out.2.1.size
      have hlA := textA_len (l.take k)
      by_cases hlk : k < l.length
      rotate_left
      · obtain rfl : k = l.length := by omega
        rw [List.take_length] at HX hlA
        go_wp2_with fail
        refine (wbyte_l B b _ 41 41 (by rfl) wr HX.out.1 (by simp; omega) hBr).mono ?_
        rintro e w3 ⟨rfl, hi3, hf3⟩
        have HI3 := Lib.hid hi3
        have HF3 := Lib.hid (HX.out.2.trans hf3)
        clear hi3 hf3
        go_wp2_with fail
        go_end0
        refine ⟨rfl, ?_, HF3.out⟩
        rw [HT.out]
        have h := HI3.out
        simp only [List.append_assoc, List.cons_append, List.nil_append] at h ⊢
        exact h
      obtain ⟨t, ht⟩ : ∃ t, l[k]? = some t := ⟨_, List.getElem?_eq_getElem hlk⟩
      obtain ⟨x, hx⟩ : ∃ x, xs'[k]? = some x := ⟨_, List.getElem?_eq_getElem (by rw [HV.out.1]; exact hlk)⟩
      have hv := HV.out.2.2 k x t hx ht
      obtain ⟨nm', A', cp', l', rfl, rfl⟩ := hv.form
      obtain ⟨b0, o0, rfl, hb0, _, hc⟩ := HV.out.2.1 (by rw [HV.out.1]; omega)
      have f0 := (HX.out.2.1.cell (p := ⟨b0, o0 + k * 2, none⟩) hb0).trans (hc k _ hx 0 _ rfl)
      have f1 := (HX.out.2.1.cell (p := ⟨b0, o0 + k * 2 + 1, none⟩) hb0).trans (hc k _ hx 1 _ rfl)
      have hw := wL_at ht
      have HTK := Lib.hid (textA_take ht)
      have HVT := Lib.hid hv
      clear hv hx hc ht
      have HB3 := Lib.hid (one_box wr (.cells #[.string (bs nm'), .slice A' l'.length cp'] 25))
      have hbr := HX.out.1.lt.1
      have hq3 : wr.heap.size ≠ b := by omega
      have HI3 := Lib.hid (isb_keep HX.out.1 HB3.out.1)
      have HF3 := Lib.hid (HX.out.2.alloc hBr (.cells #[.string (bs nm'), .slice A' l'.length cp'] 25))
      have hB3 : B ≤ (wr.alloc (.cells #[.string (bs nm'), .slice A' l'.length cp'] 25)).heap.size := Nat.le_trans hBr HB3.out.1.size
      by_cases hk0 : k = 0
      focus
        have d1 : decide ((0 : Int) < (k : Int)) = false := by simp; omega
        have d2 : ¬ 0 < k := by omega
        rw [if_pos hk0, List.nil_append] at HTK
        clear hk0
        go_wp2_with fail
        generalize wr.alloc (.cells #[.string (bs nm'), .slice A' l'.length cp'] 25) = w3 at *
        refine (IH.out (.mk nm' l') w3 B b _ nm' A' cp' l' (by omega) rfl (HVT.out.keep (fun b' hb' _ => ⟨hb', HF3.out.1.block b' hb'⟩) HF3.out.1.size) HI3.out hB3 (by simp at hlA ⊢; omega)).mono ?_
        rintro e w4 ⟨rfl, hi4, hf4⟩
        have HI4 := Lib.hid hi4
        have HF4 := Lib.hid (HF3.out.trans hf4)
        clear hi4 hf4
        go_wp2_with fail
        go_roundw
        case rel => exact ⟨k + 1, by omega, by go_num, by rw [HTK.out, ← List.append_assoc]; exact HI4.out, HF4.out⟩
        case measure => simp [intOf]; omega
      have d1 : decide ((0 : Int) < (k : Int)) = true := by simp; omega
      have d2 : 0 < k := by omega
      rw [if_neg hk0] at HTK
      clear hk0
      go_wp2_with fail
      generalize wr.alloc (.cells #[.string (bs nm'), .slice A' l'.length cp'] 25) = w3 at *
      refine (wbyte_l B b _ 44 44 (by rfl) w3 HI3.out (by simp at hlA ⊢; omega) hB3).mono ?_
      rintro e w4 ⟨rfl, hi4, hf4⟩
      have HB4 := Lib.hid (hf4.blk HB3.out.2 hq3 (by decide))
      have HI4 := Lib.hid hi4
      have HF4 := Lib.hid (HF3.out.trans hf4)
      have hB4 : B ≤ w4.heap.size := Nat.le_trans hB3 hf4.1.size
      clear hi4 hf4 HB3
      have c0 := cell_blk HB4.out 0
      have c1 := cell_blk HB4.out 1
      go_wp2_with fail
      clear c0 c1
      refine (IH.out (.mk nm' l') w4 B b _ nm' A' cp' l' (by omega) rfl (HVT.out.keep (fun b' hb' _ => ⟨hb', HF4.out.1.block b' hb'⟩) HF4.out.1.size) HI4.out hB4 (by simp at hlA ⊢; omega)).mono ?_
      rintro e w5 ⟨rfl, hi5, hf5⟩
      have HI5 := Lib.hid hi5
      have HF5 := Lib.hid (HF4.out.trans hf5)
      clear hi5 hf5
      go_wp2_with fail
      go_roundw
      case rel => exact ⟨k + 1, by omega, by go_num, by rw [HTK.out, ← List.append_assoc, ← List.append_assoc]; exact HI5.out, HF5.out⟩
      case measure => simp [intOf]; omega

set_option maxHeartbeats 4000000 in
set_option maxRecDepth 100000 in
theorem text_any (w : World) (P : Nat → Prop) (t : Tm) (nm : List UInt8) (A : Option Addr) (cp : Nat) (l : List Tm) (ht : t = .mk nm l) (hv : TmV w P [.string (bs nm), .slice A l.length cp] t) (hP : ∀ b, P b → b < w.heap.size) (hw : wT t ≤ 400000000) :
    Calls Tryz.prog 59 #[.agg #[.string (bs nm), .slice A l.length cp]] w (OutB w (.string (bs (textT t)))) := by
  subst ht
  have HW := Lib.hid (two_box w (.cells #[.string (bs nm), .slice A l.length cp] 25) (.cells #[.pointer none, .slice none 0 0] 64))
  have HI := Lib.hid (builder_new (w.alloc (.cells #[.string (bs nm), .slice A l.length cp] 25)))
  have hsz : (w.alloc (.cells #[.string (bs nm), .slice A l.length cp] 25)).heap.size = w.heap.size + 1 := by simp
  rw [hsz] at HI
  clear hsz
  have hb0 := HW.out.1
  have HV := Lib.hid (hv.keep (P' := (· < w.heap.size + 1)) (fun b hp hb => ⟨by have := hP b hp; omega, hb0.block b hb⟩) hb0.size)
  clear hv hb0
  go_enter Tryz.func59, Tryz.ntmps59
  go_wp2_with fail
  generalize (w.alloc (.cells #[.string (bs nm), .slice A l.length cp] 25)).alloc (.cells #[.pointer none, .slice none 0 0] 64) = w1 at *
  have hsz1 : w.heap.size + 1 ≤ w1.heap.size := by have := HI.out.lt.1; omega
  refine (write_any _ (.mk nm l) w1 (w.heap.size + 1) (w.heap.size + 1) [] nm A cp l (Nat.le_refl _) rfl HV.out HI.out hsz1 (by simp; omega)).mono ?_
  rintro e w2 ⟨rfl, hi, hf⟩
  have HI2 := Lib.hid hi
  have HB2 := Lib.hid (HW.out.1.trans (hf.1.mono (Nat.le_succ _)))
  have hsz2 : w.heap.size + 1 ≤ w2.heap.size := Nat.le_trans hsz1 hf.1.size
  clear hi hf
  go_wp2_with fail
  refine (Builder_String_any_k _ _ _ w2 HI2.out hsz2).mono ?_
  rintro e w3 ⟨rfl, _, hb, _⟩
  have HB3 := Lib.hid (HB2.out.trans (hb.mono (Nat.le_succ _)))
  clear hb
  go_wp2_with fail
  go_ret
  exact ⟨by simp [bs], HB3.out⟩

end
end Go.Proofs.YtmplpbdldcokjaaGreatDoor
