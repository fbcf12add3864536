/- The table that strconv.Itoa reads; what a builder keeps while others write; the plain key. -/
import Derived.Test.YtggffmbhpgioaaaDoorZa
import Derived.Test.YtggffmbhpgioaaaDoorSh
import Derived.Test.YtggffmbhpgioaaaDoorSb
import Derived.Test.YtggffmbhpgioaaaDoorRows
import Derived.Lib.ItoaLen
namespace Go.Proofs.YtggffmbhpgioaaaDoor
open Go Go.RowKit Go.Shelf
set_option linter.unusedSimpArgs false

def I64 (n : Int) : Prop := -9223372036854775808 ≤ n ∧ n ≤ 9223372036854775807
def nTab : String := match Rows.tableHashesRow.named with | x :: _ => x | [] => ""
/-- the world holds the table of powers of ten -/
def Tb (w : World) : Prop := Lib.TabIs Tryd.prog w nTab .u64 Lib.pow10Tab
theorem gTab : Tryd.prog.globalNamed nTab = some 0 := by kernel_rfl
theorem Tb.lt {w : World} (h : Tb w) : 0 < w.heap.size := by
  unfold Tb Lib.TabIs World.var? at h
  rw [gTab] at h
  rcases Nat.lt_or_ge 0 w.heap.size with hl | hl
  · exact hl
  · rw [Option.bind_some, Array.getElem?_eq_none hl] at h; simp at h
theorem Tb.below {w w' : World} (h : Tb w) (hb : Below w.heap.size w w') : Tb w' := by
  have hl := h.lt
  unfold Tb Lib.TabIs World.var? at *
  rw [gTab] at *
  rw [Option.bind_some] at *
  rw [hb.block _ hl]
  exact h
theorem below_grow (w : World) (k : Nat) (os : Array Obj) : Below w.heap.size w (Sort.grow (w.drewN k) os) := by
  refine ⟨rfl, rfl, rfl, ?_, fun i hi => ?_⟩
  · simp [Sort.grow]
  · simp only [Sort.grow, World.heap_drewN]
    exact Array.getElem?_append_left hi
theorem itoa_below (w : World) (n : Int) (hn : I64 n) (ht : Tb w) : Calls Tryd.prog 27 #[.int .i64 n] w (OutB w (.string ⟨(Lib.itoa n).toArray⟩)) :=
  (strconv_Itoa n hn.1 hn.2 w ht).mono fun e w' h => ⟨h.1, by obtain ⟨k, os, hk⟩ := h.2; rw [hk]; exact below_grow _ _ _⟩
theorem own_keepB {w w' : World} {base : Nat} {e : TypeId} {size : Nat} {v : Value} {n : Nat} {xs : List Value} (h : w.ownsRow base e size v n xs) (hb : Below w.heap.size w w') : w'.ownsRow base e size v n xs :=
  ⟨h.1, h.2.imp id fun ⟨g, cap, cur, hv, hbs, hg, r⟩ => ⟨g, cap, cur, hv, hbs, (hb.block g (Array.getElem?_eq_some_iff.1 hg).1).trans hg, r⟩⟩
theorem bat_keep {T e : TypeId} {B b : Nat} {p : Value} {bs : List Value} {w w' : World} (h : Lib.BuilderAt T e B b p bs w) (hb : Below w.heap.size w w') : Lib.BuilderAt T e B b p bs w' := by
  obtain ⟨h1, v, hv, ho, hne⟩ := h
  exact ⟨h1, v, (hb.block b (Array.getElem?_eq_some_iff.1 hv).1).trans hv, own_keepB ho hb, hne⟩
theorem isb_keep {T e : TypeId} {B b : Nat} {bs : List Value} {w w' : World} (h : Lib.IsBuilder T e B b bs w) (hb : Below w.heap.size w w') : Lib.IsBuilder T e B b bs w' := h.imp (bat_keep · hb) (bat_keep · hb)

/-- the text of a key -/
def keyG : Bool → List Int → List UInt8
  | _, [] => []
  | first, n :: r => (if first then [] else [44]) ++ Lib.itoa n ++ keyG false r
theorem keyG_snoc : ∀ (xs : List Int) (first : Bool) (n : Int), keyG first (xs ++ [n]) = keyG first xs ++ ((if xs.isEmpty && first then [] else [44]) ++ Lib.itoa n)
  | [], first, n => by simp [keyG]
  | x :: r, first, n => by rw [List.cons_append, keyG, keyG_snoc r false n, keyG]; simp
def keyF (l : List Int) (role : Int) : List UInt8 := Lib.itoa role ++ [58] ++ keyG true l
theorem keyF_take {l : List Int} {role : Int} {k : Nat} (hk : k < l.length) : keyF (l.take (k + 1)) role = keyF (l.take k) role ++ ((if k = 0 then [] else [44]) ++ Lib.itoa l[k]) := by
  unfold keyF
  rw [List.take_succ_eq_append_getElem hk, keyG_snoc, List.append_assoc (Lib.itoa role ++ [58])]
  congr 2
  cases k with
  | zero => simp
  | succ k =>
    have hl : l ≠ [] := by rintro rfl; simp at hk
    simp [hl]
theorem keyG_len : ∀ (l : List Int) (f : Bool), (∀ n ∈ l, I64 n) → (keyG f l).length ≤ 22 * l.length
  | [], _, _ => by simp [keyG]
  | n :: r, f, h => by
    have h1 := keyG_len r false (fun m hm => h m (by simp [hm]))
    have h2 := Lib.itoa_length_le n (h n (by simp)).1 (h n (by simp)).2
    rw [keyG]
    simp only [List.length_append, List.length_cons]
    split <;> simp <;> omega
theorem keyF_len {l : List Int} {role : Int} (hr : I64 role) (h : ∀ n ∈ l, I64 n) : (keyF l role).length ≤ 22 * l.length + 22 := by
  have h1 := keyG_len l true h
  have h2 := Lib.itoa_length_le role hr.1 hr.2
  unfold keyF
  simp; omega
end Go.Proofs.YtggffmbhpgioaaaDoor
