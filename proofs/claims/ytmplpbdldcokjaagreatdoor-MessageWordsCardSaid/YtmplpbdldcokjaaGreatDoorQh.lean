/- The walk of message.Encode. -/
import Derived.Test.YtmplpbdldcokjaaGreatDoorQg
import Derived.Test.YtmplpbdldcokjaaGreatDoorHd
import Derived.Lib.ItoaLen
namespace Go.Proofs.YtmplpbdldcokjaaGreatDoor
open Go Go.RowKit Go.Shelf
set_option linter.unusedSimpArgs false
set_option linter.unusedVariables false

def nTab : String := "internal/strconv.uint64pow10"
/-- the world holds the table of powers of ten -/
def Tb (w : World) : Prop := Lib.TabIs Tryz.prog w nTab .u64 Lib.pow10Tab
theorem gTab : Tryz.prog.globalNamed nTab = some 3 := by kernel_rfl
theorem Tb.lt {w : World} (h : Tb w) : 3 < w.heap.size := by
  unfold Tb Lib.TabIs World.var? at h
  rw [gTab] at h
  rcases Nat.lt_or_ge 3 w.heap.size with hl | hl
  · exact hl
  · rw [Option.bind_some, Array.getElem?_eq_none hl] at h; simp at h
theorem Tb.below {w w' : World} (h : Tb w) (hb : Below w.heap.size w w') : Tb w' := by
  have hl := h.lt
  unfold Tb Lib.TabIs World.var? at *
  rw [gTab] at *
  rw [Option.bind_some] at *
  rw [hb.block _ hl]
  exact h
theorem below_grow (w : World) (k : Nat) (os : Array Obj) : Below w.heap.size w (Sort.grow (w.drewN k) os) := by
  refine ⟨rfl, rfl, rfl, ?_, fun i hi => ?_⟩
  · simp [Sort.grow]
  · simp only [Sort.grow, World.heap_drewN]
    exact Array.getElem?_append_left hi
theorem itoa_below (w : World) (n : Int) (hn : I64 n) (ht : Tb w) : Calls Tryz.prog 37 #[.int .i64 n] w (OutB w (.string (bs (Lib.itoa n)))) :=
  (strconv_Itoa n hn.1 hn.2 w ht).mono fun e w' h => ⟨h.1, by obtain ⟨k, os, hk⟩ := h.2; rw [hk]; exact below_grow _ _ _⟩
theorem str_add_b {w : World} (a b : List UInt8) (h : a.length + b.length ≤ 1000000000) : (Op.stringOp .add (bs a) (bs b)).run Tryz.prog w = .ok (.string (bs (a ++ b))) w := by
  have e : bs a ++ bs b = bs (a ++ b) := by
    apply ByteArray.ext
    rw [ByteArray.data_append]
    simp [bs]
  have h1 : (bs a).size + (bs b).size ≤ maxLen := by rw [size_bs, size_bs]; unfold maxLen; omega
  unfold maxLen at h1
  simp [Op.stringOp, e]
  omega
theorem termsT_len : ∀ {l : List Tm}, groundF l = true → (termsT l).length ≤ l.length * 16386 := by
  intro l h
  have hv : ∀ t ∈ l, (textT t).length ≤ 16384 := fun t ht => Nat.le_trans (valid_t 4 t (List.all_eq_true.1 h t ht)) (by decide)
  have hj : ∀ l : List Tm, (∀ t ∈ l, (textT t).length ≤ 16384) → (Lib.joinTail [44, 32] (txs l)).length ≤ l.length * 16386 := by
    intro l
    induction l with
    | nil => intro _; simp [txs, Lib.joinTail]
    | cons a l ih =>
      intro h
      have h1 := h a (by simp)
      have h2 := ih (fun t ht => h t (by simp [ht]))
      have : (Lib.joinTail [44, 32] (txs (a :: l))) = [44, 32] ++ textT a ++ Lib.joinTail [44, 32] (txs l) := by simp [txs, Lib.joinTail]
      rw [this]
      simp
      omega
  unfold termsT
  cases l with
  | nil => simp [txs, Lib.join, List.intercalate]
  | cons a l =>
    have h1 := hv a (by simp)
    have h2 := hj l (fun t ht => hv t (by simp [ht]))
    have : Lib.join (txs (a :: l)) [44, 32] = textT a ++ Lib.joinTail [44, 32] (txs l) := by
      unfold txs
      rw [List.map_cons, Lib.join_cons]
    rw [this]
    simp
    omega
theorem ground_w {l : List Tm} (h : groundF l = true) : ∀ t ∈ l, wT t ≤ 400000000 := fun t ht => Nat.le_trans (valid_w 4 t (List.all_eq_true.1 h t ht)) (by decide)
theorem ground_take {l : List Tm} (h : groundF l = true) (k : Nat) : groundF (l.take k) = true := by
  unfold groundF at *
  rw [List.all_eq_true] at *
  exact fun t ht => h t (List.mem_of_mem_take ht)

set_option maxHeartbeats 4000000 in
set_option maxRecDepth 100000 in
/-- the text of a list of the message, as one word -/
theorem enc_list6 (w : World) (P : Nat → Prop) (q : Nat) (A1 : Option Addr) (c1 : Nat) (l1 : List Tm) (hc : w.cell? ⟨q, 6, none⟩ = some (.slice A1 l1.length c1)) (hl : l1.length ≤ 5000) (ha : SlV TmV 2 w P A1 l1) (hP : ∀ b, P b → b < w.heap.size) (hg : groundF l1 = true) :
    Calls Tryz.prog 33 #[.pointer (some ⟨q, 0, none⟩)] w (OutB w (.string (bs (escT (termsT l1))))) := by
  have hlen := termsT_len hg
  have CT := Lib.hid (terms_text w P A1 c1 l1 (by omega) ha hP (ground_w hg) (by show (termsT l1).length ≤ _; omega))
  have CE := Lib.hid (fun (y : World) => escape_any y (bs (termsT l1)) (by rw [size_bs]; omega))
  rw [toList_bs] at CE
  rw [show Lib.join (txs l1) [44, 32] = termsT l1 from rfl] at CT
  clear ha hP hg hlen
  generalize bs (termsT l1) = s1 at *
  generalize bs (escT (termsT l1)) = s2 at *
  go_enter Tryz.func33, Tryz.ntmps33
  go_wp2_with fail
  refine CT.out.mono ?_
  rintro e w1 ⟨rfl, hb⟩
  have HB1 := Lib.hid hb
  clear hb
  go_wp2_with fail
  refine (CE.out _).mono ?_
  rintro e w2 ⟨rfl, hb⟩
  have HB2 := Lib.hid (HB1.out.trans (hb.mono HB1.out.size))
  clear hb
  go_wp2_with fail
  go_ret
  exact ⟨rfl, HB2.out⟩

set_option maxHeartbeats 4000000 in
set_option maxRecDepth 100000 in
/-- the text of a list of the message, as one word -/
theorem enc_list7 (w : World) (P : Nat → Prop) (q : Nat) (A1 : Option Addr) (c1 : Nat) (l1 : List Tm) (hc : w.cell? ⟨q, 7, none⟩ = some (.slice A1 l1.length c1)) (hl : l1.length ≤ 5000) (ha : SlV TmV 2 w P A1 l1) (hP : ∀ b, P b → b < w.heap.size) (hg : groundF l1 = true) :
    Calls Tryz.prog 35 #[.pointer (some ⟨q, 0, none⟩)] w (OutB w (.string (bs (escT (termsT l1))))) := by
  have hlen := termsT_len hg
  have CT := Lib.hid (terms_text w P A1 c1 l1 (by omega) ha hP (ground_w hg) (by show (termsT l1).length ≤ _; omega))
  have CE := Lib.hid (fun (y : World) => escape_any y (bs (termsT l1)) (by rw [size_bs]; omega))
  rw [toList_bs] at CE
  rw [show Lib.join (txs l1) [44, 32] = termsT l1 from rfl] at CT
  clear ha hP hg hlen
  generalize bs (termsT l1) = s1 at *
  generalize bs (escT (termsT l1)) = s2 at *
  go_enter Tryz.func35, Tryz.ntmps35
  go_wp2_with fail
  refine CT.out.mono ?_
  rintro e w1 ⟨rfl, hb⟩
  have HB1 := Lib.hid hb
  clear hb
  go_wp2_with fail
  refine (CE.out _).mono ?_
  rintro e w2 ⟨rfl, hb⟩
  have HB2 := Lib.hid (HB1.out.trans (hb.mono HB1.out.size))
  clear hb
  go_wp2_with fail
  go_ret
  exact ⟨rfl, HB2.out⟩

/-- what Encode returns -/
def encO (m : Ms) : List UInt8 × Int := if checkF m = 0 then (encF m, 0) else ([], checkF m)
def encV (m : Ms) : Value := .tuple #[.string (bs (encO m).1), .int .i64 (encO m).2]

end Go.Proofs.YtmplpbdldcokjaaGreatDoor
