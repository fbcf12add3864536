/- Merged texts: The walk of message.Encode. The walk of message.Encode, kind by kind. The walk of message.Encode of a start message, and of any message. -/
import Derived.Test.YtmplpbdldcokjaaGreatDoorQg
import Derived.Test.YtmplpbdldcokjaaGreatDoorHd
import Derived.Lib.ItoaLen
namespace Go.Proofs.YtmplpbdldcokjaaGreatDoor
/- The walk of message.Encode. -/
section
open Go Go.RowKit Go.Shelf
set_option linter.unusedSimpArgs false
set_option linter.unusedVariables false

def nTab : String := "internal/strconv.uint64pow10"
/-- the world holds the table of powers of ten -/
def Tb (w : World) : Prop := Lib.TabIs Tryz.prog w nTab .u64 Lib.pow10Tab
theorem gTab : Tryz.prog.globalNamed nTab = some 3 := by kernel_rfl
theorem Tb.lt {w : World} (h : Tb w) : 3 < w.heap.size := by
  unfold Tb Lib.TabIs World.var? at h
  rw [gTab] at h
  rcases Nat.lt_or_ge 3 w.heap.size with hl | hl
  · exact hl
  · rw [Option.bind_some, Array.getElem?_eq_none hl] at h; simp at h
theorem Tb.below {w w' : World} (h : Tb w) (hb : Below w.heap.size w w') : Tb w' := by
  have hl := h.lt
  unfold Tb Lib.TabIs World.var? at *
  rw [gTab] at *
  rw [Option.bind_some] at *
  rw [hb.block _ hl]
  exact h
theorem below_grow (w : World) (k : Nat) (os : Array Obj) : Below w.heap.size w (Sort.grow (w.drewN k) os) := by
  refine ⟨rfl, rfl, rfl, ?_, fun i hi => ?_⟩
  · simp [Sort.grow]
  · simp only [Sort.grow, World.heap_drewN]
    exact Array.getElem?_append_left hi
theorem itoa_below (w : World) (n : Int) (hn : I64 n) (ht : Tb w) : Calls Tryz.prog 37 #[.int .i64 n] w (OutB w (.string (bs (Lib.itoa n)))) :=
  (strconv_Itoa n hn.1 hn.2 w ht).mono fun e w' h => ⟨h.1, by obtain ⟨k, os, hk⟩ := h.2; rw [hk]; exact below_grow _ _ _⟩
theorem str_add_b {w : World} (a b : List UInt8) (h : a.length + b.length ≤ 1000000000) : (Op.stringOp .add (bs a) (bs b)).run Tryz.prog w = .ok (.string (bs (a ++ b))) w := by
  have e : bs a ++ bs b = bs (a ++ b) := by
    apply ByteArray.ext
    rw [ByteArray.data_append]
    simp [bs]
  have h1 : (bs a).size + (bs b).size ≤ maxLen := by rw [size_bs, size_bs]; unfold maxLen; omega
  unfold maxLen at h1
  simp [Op.stringOp, e]
  omega
theorem termsT_len : ∀ {l : List Tm}, groundF l = true → (termsT l).length ≤ l.length * 16386 := by
  intro l h
  have hv : ∀ t ∈ l, (textT t).length ≤ 16384 := fun t ht => Nat.le_trans (valid_t 4 t (List.all_eq_true.1 h t ht)) (by decide)
  have hj : ∀ l : List Tm, (∀ t ∈ l, (textT t).length ≤ 16384) → (Lib.joinTail [44, 32] (txs l)).length ≤ l.length * 16386 := by
    intro l
    induction l with
    | nil => intro _; simp [txs, Lib.joinTail]
    | cons a l ih =>
      intro h
      have h1 := h a (by simp)
      have h2 := ih (fun t ht => h t (by simp [ht]))
      have : (Lib.joinTail [44, 32] (txs (a :: l))) = [44, 32] ++ textT a ++ Lib.joinTail [44, 32] (txs l) := by simp [txs, Lib.joinTail]
      rw [this]
      simp
      omega
  unfold termsT
  cases l with
  | nil => simp [txs, Lib.join, List.intercalate]
  | cons a l =>
    have h1 := hv a (by simp)
    have h2 := hj l (fun t ht => hv t (by simp [ht]))
    have : Lib.join (txs (a :: l)) [44, 32] = textT a ++ Lib.joinTail [44, 32] (txs l) := by
      unfold txs
      rw [List.map_cons, Lib.join_cons]
    rw [this]
    simp
    omega
theorem ground_w {l : List Tm} (h : groundF l = true) : ∀ t ∈ l, wT t ≤ 400000000 := fun t ht => Nat.le_trans (valid_w 4 t (List.all_eq_true.1 h t ht)) (by decide)
theorem ground_take {l : List Tm} (h : groundF l = true) (k : Nat) : groundF (l.take k) = true := by
  unfold groundF at *
  rw [List.all_eq_true] at *
  exact fun t ht => h t (List.mem_of_mem_take ht)

set_option maxHeartbeats 4000000 in
set_option maxRecDepth 100000 in
/-- the text of a list of the message, as one word -/
theorem enc_list6 (w : World) (P : Nat → Prop) (q : Nat) (A1 : Option Addr) (c1 : Nat) (l1 : List Tm) (hc : w.cell? ⟨q, 6, none⟩ = some (.slice A1 l1.length c1)) (hl : l1.length ≤ 5000) (ha : SlV TmV 2 w P A1 l1) (hP : ∀ b, P b → b < w.heap.size) (hg : groundF l1 = true) :
    Calls Tryz.prog 33 #[.pointer (some ⟨q, 0, none⟩)] w (OutB w (.string (bs (escT (termsT l1))))) := by
  have hlen := termsT_len hg
  have CT := Lib.hid (terms_text w P A1 c1 l1 (by omega) ha hP (ground_w hg) (by show (termsT l1).length ≤ _; omega))
  have CE := Lib.hid (fun (y : World) => escape_any y (bs (termsT l1)) (by rw [size_bs]; omega))
  rw [toList_bs] at CE
  rw [show Lib.join (txs l1) [44, 32] = termsT l1 from rfl] at CT
  clear ha hP hg hlen
  generalize bs (termsT l1) = s1 at *
  generalize bs (escT (termsT l1)) = s2 at *
  go_enter Tryz.func33, Tryz.ntmps33
  go_wp2_with fail
  refine CT.out.mono ?_
  rintro e w1 ⟨rfl, hb⟩
  have HB1 := Lib.hid hb
  clear hb
  go_wp2_with fail
  refine (CE.out _).mono ?_
  rintro e w2 ⟨rfl, hb⟩
  have HB2 := Lib.hid (HB1.out.trans (hb.mono HB1.out.size))
  clear hb
  go_wp2_with fail
  go_ret
  exact ⟨rfl, HB2.out⟩

set_option maxHeartbeats 4000000 in
set_option maxRecDepth 100000 in
/-- the text of a list of the message, as one word -/
theorem enc_list7 (w : World) (P : Nat → Prop) (q : Nat) (A1 : Option Addr) (c1 : Nat) (l1 : List Tm) (hc : w.cell? ⟨q, 7, none⟩ = some (.slice A1 l1.length c1)) (hl : l1.length ≤ 5000) (ha : SlV TmV 2 w P A1 l1) (hP : ∀ b, P b → b < w.heap.size) (hg : groundF l1 = true) :
    Calls Tryz.prog 35 #[.pointer (some ⟨q, 0, none⟩)] w (OutB w (.string (bs (escT (termsT l1))))) := by
  have hlen := termsT_len hg
  have CT := Lib.hid (terms_text w P A1 c1 l1 (by omega) ha hP (ground_w hg) (by show (termsT l1).length ≤ _; omega))
  have CE := Lib.hid (fun (y : World) => escape_any y (bs (termsT l1)) (by rw [size_bs]; omega))
  rw [toList_bs] at CE
  rw [show Lib.join (txs l1) [44, 32] = termsT l1 from rfl] at CT
  clear ha hP hg hlen
  generalize bs (termsT l1) = s1 at *
  generalize bs (escT (termsT l1)) = s2 at *
  go_enter Tryz.func35, Tryz.ntmps35
  go_wp2_with fail
  refine CT.out.mono ?_
  rintro e w1 ⟨rfl, hb⟩
  have HB1 := Lib.hid hb
  clear hb
  go_wp2_with fail
  refine (CE.out _).mono ?_
  rintro e w2 ⟨rfl, hb⟩
  have HB2 := Lib.hid (HB1.out.trans (hb.mono HB1.out.size))
  clear hb
  go_wp2_with fail
  go_ret
  exact ⟨rfl, HB2.out⟩

/-- what Encode returns -/
def encO (m : Ms) : List UInt8 × Int := if checkF m = 0 then (encF m, 0) else ([], checkF m)
def encV (m : Ms) : Value := .tuple #[.string (bs (encO m).1), .int .i64 (encO m).2]


end
/- The walk of message.Encode, kind by kind. -/
section
open Go Go.RowKit Go.Shelf
set_option linter.unusedSimpArgs false
set_option linter.unusedVariables false

theorem keep1 {w4 x : World} {a : Addr} {va : Value} (h : w4.cell? a = some va ∧ a.block < w4.heap.size) (hb : Below w4.heap.size w4 x) : x.cell? a = some va ∧ Hid (Below w4.heap.size w4 x) :=
  ⟨(hb.cell h.2).trans h.1, hb⟩
theorem last1 {p1 p : Prop} (h : p1 ∧ Hid p) : p := h.2.out
theorem trans1h {w a b : World} (h : Hid (Below w.heap.size w a)) (hb : Below a.heap.size a b) : Below w.heap.size w b := h.out.trans (hb.mono h.out.size)
theorem encO_ok {m : Ms} (h : checkF m = 0) {s : List UInt8} (hs : encF m = s) : Ending.returned (Value.tuple #[.string (bs s), .int .i64 0]) = Ending.returned (encV m) := by
  unfold encV encO; rw [if_pos h, hs]
theorem encO_no {m : Ms} {z : Int} (h : checkF m = z) (hz : z ≠ 0) : Ending.returned (Value.tuple #[.string ⟨#[]⟩, .int .i64 z]) = Ending.returned (encV m) := by
  unfold encV encO; rw [if_neg (by rw [h]; exact hz), h]; rfl
theorem name_le {l : List UInt8} (h : nameF l = true) : l.length ≤ 16 := len_name h

set_option maxHeartbeats 16000000 in
set_option maxRecDepth 100000 in
theorem encode_no (w : World) (P : Nat → Prop) (k : Int) (mat nm : List UInt8) (A : Option Addr) (cp : Nat) (l : List Tm) (sc pc : Int) (A1 : Option Addr) (c1 : Nat) (l1 : List Tm) (A2 : Option Addr) (c2 : Nat) (l2 : List Tm) (txt : List UInt8)
    (hsm : mat.length ≤ 9223372036854775807) (hsn : nm.length ≤ 9223372036854775807) (h : MsIn w P A1 l1 A2 l2) (hn1 : l1.length ≤ 5000) (hn2 : l2.length ≤ 5000) (ht : Tb w)
    (hc : checkF ⟨k, mat, .mk nm l, sc, pc, l1, l2, txt⟩ ≠ 0) :
    Calls Tryz.prog 12 #[(msgV k (bs mat) (bs nm) A l.length cp sc pc A1 l1.length c1 A2 l2.length c2 (bs txt))] w (OutB w (encV ⟨k, mat, .mk nm l, sc, pc, l1, l2, txt⟩)) := by
  have HB0 := Lib.hid (one_box w (.cells #[.int .i64 k, .string (bs mat), .string (bs nm), .slice A l.length cp, .int .i64 sc, .int .i64 pc, .slice A1 l1.length c1, .slice A2 l2.length c2, .string (bs txt)] 27))
  have CC := Lib.hid (check_any (w.alloc (.cells #[.int .i64 k, .string (bs mat), .string (bs nm), .slice A l.length cp, .int .i64 sc, .int .i64 pc, .slice A1 l1.length c1, .slice A2 l2.length c2, .string (bs txt)] 27)) P k (bs mat) (bs nm) A cp l sc pc A1 c1 l1 A2 c2 l2 (bs txt) (by rw [size_bs]; omega) (by rw [size_bs]; omega) (h.keep HB0.out.1))
  rw [toList_bs, toList_bs, toList_bs] at CC
  have HIN := Lib.hid (fun (y : World) (hy : Below w.heap.size w y) => h.keep hy)
  have HTB := Lib.hid (fun (y : World) (hy : Below w.heap.size w y) => ht.below hy)
  have hmf : ∀ (fn : Fn) (first cap : Array Value) (w : World), (Instr.makeFunc fn first cap).run Tryz.prog w = .ok (.func fn first cap) w := fun _ _ _ _ => rfl
  clear h ht
  have HR : Hid (∀ z : Int, checkF ⟨k, mat, .mk nm l, sc, pc, l1, l2, txt⟩ = z → Ending.returned (Value.tuple #[.string ⟨#[]⟩, .int .i64 z]) = Ending.returned (encV ⟨k, mat, .mk nm l, sc, pc, l1, l2, txt⟩)) := fun z hz => encO_no hz (by rw [← hz]; exact hc)
  generalize hz : checkF ⟨k, mat, .mk nm l, sc, pc, l1, l2, txt⟩ = z at *
  have HRU := Lib.hid (HR.out z rfl)
  have e1 : (z != 0) = true := by simpa using hc
  clear HR hz hc
  go_enter Tryz.func12, Tryz.ntmps12
  go_wp2_with fail
  generalize w.alloc (.cells #[.int .i64 k, .string (bs mat), .string (bs nm), .slice A l.length cp, .int .i64 sc, .int .i64 pc, .slice A1 l1.length c1, .slice A2 l2.length c2, .string (bs txt)] 27) = w0 at *
  refine CC.out.mono ?_
  rintro e w1 ⟨rfl, hb⟩
  have HM := Lib.hid ((hb.block _ (heap_lt HB0.out.2)).trans HB0.out.2)
  have HB1 := Lib.hid (HB0.out.1.trans (hb.mono HB0.out.1.size))
  clear hb CC HB0
  go_wp2_with fail
  go_ret2
  exact ⟨HRU.out, HB1.out⟩

set_option maxHeartbeats 16000000 in
set_option maxRecDepth 100000 in
theorem encode_4 (w : World) (P : Nat → Prop) (mat nm : List UInt8) (A : Option Addr) (cp : Nat) (l : List Tm) (sc pc : Int) (A1 : Option Addr) (c1 : Nat) (l1 : List Tm) (A2 : Option Addr) (c2 : Nat) (l2 : List Tm) (txt : List UInt8)
    (hsm : mat.length ≤ 9223372036854775807) (hsn : nm.length ≤ 9223372036854775807) (h : MsIn w P A1 l1 A2 l2) (hn1 : l1.length ≤ 5000) (hn2 : l2.length ≤ 5000) (ht : Tb w)
    (hc : checkF ⟨4, mat, .mk nm l, sc, pc, l1, l2, txt⟩ = 0) :
    Calls Tryz.prog 12 #[(msgV 4 (bs mat) (bs nm) A l.length cp sc pc A1 l1.length c1 A2 l2.length c2 (bs txt))] w (OutB w (encV ⟨4, mat, .mk nm l, sc, pc, l1, l2, txt⟩)) := by
  have HB0 := Lib.hid (one_box w (.cells #[.int .i64 4, .string (bs mat), .string (bs nm), .slice A l.length cp, .int .i64 sc, .int .i64 pc, .slice A1 l1.length c1, .slice A2 l2.length c2, .string (bs txt)] 27))
  have CC := Lib.hid (check_any (w.alloc (.cells #[.int .i64 4, .string (bs mat), .string (bs nm), .slice A l.length cp, .int .i64 sc, .int .i64 pc, .slice A1 l1.length c1, .slice A2 l2.length c2, .string (bs txt)] 27)) P 4 (bs mat) (bs nm) A cp l sc pc A1 c1 l1 A2 c2 l2 (bs txt) (by rw [size_bs]; omega) (by rw [size_bs]; omega) (h.keep HB0.out.1))
  rw [toList_bs, toList_bs, toList_bs] at CC
  have HIN := Lib.hid (fun (y : World) (hy : Below w.heap.size w y) => h.keep hy)
  have HTB := Lib.hid (fun (y : World) (hy : Below w.heap.size w y) => ht.below hy)
  have hmf : ∀ (fn : Fn) (first cap : Array Value) (w : World), (Instr.makeFunc fn first cap).run Tryz.prog w = .ok (.func fn first cap) w := fun _ _ _ _ => rfl
  clear h ht
  have HOK := Lib.hid (check_ok hc)
  have HCK := Lib.hid hc
  rw [hc] at CC
  clear hc
  have hmat : mat.length ≤ 16 := name_le (HOK.out.2.1 (show (4 : Int) ≤ 4 by decide))
  have hadd : ∀ y : World, (Op.stringOp .add ⟨#[97, 98, 111, 114, 116, 32]⟩ (bs mat)).run Tryz.prog y = .ok (.string (bs ([97, 98, 111, 114, 116, 32] ++ mat))) y := fun y => str_add_b [97, 98, 111, 114, 116, 32] mat (by simp; omega)
  have HRU := Lib.hid (encO_ok HCK.out (s := [97, 98, 111, 114, 116, 32] ++ mat) (by unfold encF encW; simp [Lib.join, List.intercalate, wAbort]))
  generalize bs ([97, 98, 111, 114, 116, 32] ++ mat) = s9 at *
  go_enter Tryz.func12, Tryz.ntmps12
  go_wp2_with fail
  generalize w.alloc (.cells #[.int .i64 4, .string (bs mat), .string (bs nm), .slice A l.length cp, .int .i64 sc, .int .i64 pc, .slice A1 l1.length c1, .slice A2 l2.length c2, .string (bs txt)] 27) = w0 at *
  refine CC.out.mono ?_
  rintro e w1 ⟨rfl, hb⟩
  have HM := Lib.hid ((hb.block _ (heap_lt HB0.out.2)).trans HB0.out.2)
  have HB1 := Lib.hid (HB0.out.1.trans (hb.mono HB0.out.1.size))
  clear hb CC HB0
  have m0 := cell_blk HM.out 0
  have m1 := cell_blk HM.out 1
  go_wp2_with fail
  go_ret2
  exact ⟨HRU.out, HB1.out⟩

set_option maxHeartbeats 16000000 in
set_option maxRecDepth 100000 in
theorem encode_5 (w : World) (P : Nat → Prop) (mat nm : List UInt8) (A : Option Addr) (cp : Nat) (l : List Tm) (sc pc : Int) (A1 : Option Addr) (c1 : Nat) (l1 : List Tm) (A2 : Option Addr) (c2 : Nat) (l2 : List Tm) (txt : List UInt8)
    (hsm : mat.length ≤ 9223372036854775807) (hsn : nm.length ≤ 9223372036854775807) (h : MsIn w P A1 l1 A2 l2) (hn1 : l1.length ≤ 5000) (hn2 : l2.length ≤ 5000) (ht : Tb w)
    (hc : checkF ⟨5, mat, .mk nm l, sc, pc, l1, l2, txt⟩ = 0) :
    Calls Tryz.prog 12 #[(msgV 5 (bs mat) (bs nm) A l.length cp sc pc A1 l1.length c1 A2 l2.length c2 (bs txt))] w (OutB w (encV ⟨5, mat, .mk nm l, sc, pc, l1, l2, txt⟩)) := by
  have HB0 := Lib.hid (one_box w (.cells #[.int .i64 5, .string (bs mat), .string (bs nm), .slice A l.length cp, .int .i64 sc, .int .i64 pc, .slice A1 l1.length c1, .slice A2 l2.length c2, .string (bs txt)] 27))
  have CC := Lib.hid (check_any (w.alloc (.cells #[.int .i64 5, .string (bs mat), .string (bs nm), .slice A l.length cp, .int .i64 sc, .int .i64 pc, .slice A1 l1.length c1, .slice A2 l2.length c2, .string (bs txt)] 27)) P 5 (bs mat) (bs nm) A cp l sc pc A1 c1 l1 A2 c2 l2 (bs txt) (by rw [size_bs]; omega) (by rw [size_bs]; omega) (h.keep HB0.out.1))
  rw [toList_bs, toList_bs, toList_bs] at CC
  have HIN := Lib.hid (fun (y : World) (hy : Below w.heap.size w y) => h.keep hy)
  have HTB := Lib.hid (fun (y : World) (hy : Below w.heap.size w y) => ht.below hy)
  have hmf : ∀ (fn : Fn) (first cap : Array Value) (w : World), (Instr.makeFunc fn first cap).run Tryz.prog w = .ok (.func fn first cap) w := fun _ _ _ _ => rfl
  clear h ht
  have HOK := Lib.hid (check_ok hc)
  have HCK := Lib.hid hc
  rw [hc] at CC
  clear hc
  have HRU := Lib.hid (encO_ok HCK.out (s := wReady) (by unfold encF encW; simp [Lib.join, List.intercalate]))
  rw [show bs wReady = ⟨#[114, 101, 97, 100, 121]⟩ from rfl] at HRU
  go_enter Tryz.func12, Tryz.ntmps12
  go_wp2_with fail
  generalize w.alloc (.cells #[.int .i64 5, .string (bs mat), .string (bs nm), .slice A l.length cp, .int .i64 sc, .int .i64 pc, .slice A1 l1.length c1, .slice A2 l2.length c2, .string (bs txt)] 27) = w0 at *
  refine CC.out.mono ?_
  rintro e w1 ⟨rfl, hb⟩
  have HM := Lib.hid ((hb.block _ (heap_lt HB0.out.2)).trans HB0.out.2)
  have HB1 := Lib.hid (HB0.out.1.trans (hb.mono HB0.out.1.size))
  clear hb CC HB0
  have m0 := cell_blk HM.out 0
  go_wp2_with fail
  go_ret2
  exact ⟨HRU.out, HB1.out⟩

set_option maxHeartbeats 16000000 in
set_option maxRecDepth 100000 in
theorem encode_7 (w : World) (P : Nat → Prop) (mat nm : List UInt8) (A : Option Addr) (cp : Nat) (l : List Tm) (sc pc : Int) (A1 : Option Addr) (c1 : Nat) (l1 : List Tm) (A2 : Option Addr) (c2 : Nat) (l2 : List Tm) (txt : List UInt8)
    (hsm : mat.length ≤ 9223372036854775807) (hsn : nm.length ≤ 9223372036854775807) (h : MsIn w P A1 l1 A2 l2) (hn1 : l1.length ≤ 5000) (hn2 : l2.length ≤ 5000) (ht : Tb w)
    (hc : checkF ⟨7, mat, .mk nm l, sc, pc, l1, l2, txt⟩ = 0) :
    Calls Tryz.prog 12 #[(msgV 7 (bs mat) (bs nm) A l.length cp sc pc A1 l1.length c1 A2 l2.length c2 (bs txt))] w (OutB w (encV ⟨7, mat, .mk nm l, sc, pc, l1, l2, txt⟩)) := by
  have HB0 := Lib.hid (one_box w (.cells #[.int .i64 7, .string (bs mat), .string (bs nm), .slice A l.length cp, .int .i64 sc, .int .i64 pc, .slice A1 l1.length c1, .slice A2 l2.length c2, .string (bs txt)] 27))
  have CC := Lib.hid (check_any (w.alloc (.cells #[.int .i64 7, .string (bs mat), .string (bs nm), .slice A l.length cp, .int .i64 sc, .int .i64 pc, .slice A1 l1.length c1, .slice A2 l2.length c2, .string (bs txt)] 27)) P 7 (bs mat) (bs nm) A cp l sc pc A1 c1 l1 A2 c2 l2 (bs txt) (by rw [size_bs]; omega) (by rw [size_bs]; omega) (h.keep HB0.out.1))
  rw [toList_bs, toList_bs, toList_bs] at CC
  have HIN := Lib.hid (fun (y : World) (hy : Below w.heap.size w y) => h.keep hy)
  have HTB := Lib.hid (fun (y : World) (hy : Below w.heap.size w y) => ht.below hy)
  have hmf : ∀ (fn : Fn) (first cap : Array Value) (w : World), (Instr.makeFunc fn first cap).run Tryz.prog w = .ok (.func fn first cap) w := fun _ _ _ _ => rfl
  clear h ht
  have HOK := Lib.hid (check_ok hc)
  have HCK := Lib.hid hc
  rw [hc] at CC
  clear hc
  have HRU := Lib.hid (encO_ok HCK.out (s := wDone) (by unfold encF encW; simp [Lib.join, List.intercalate]))
  rw [show bs wDone = ⟨#[100, 111, 110, 101]⟩ from rfl] at HRU
  go_enter Tryz.func12, Tryz.ntmps12
  go_wp2_with fail
  generalize w.alloc (.cells #[.int .i64 7, .string (bs mat), .string (bs nm), .slice A l.length cp, .int .i64 sc, .int .i64 pc, .slice A1 l1.length c1, .slice A2 l2.length c2, .string (bs txt)] 27) = w0 at *
  refine CC.out.mono ?_
  rintro e w1 ⟨rfl, hb⟩
  have HM := Lib.hid ((hb.block _ (heap_lt HB0.out.2)).trans HB0.out.2)
  have HB1 := Lib.hid (HB0.out.1.trans (hb.mono HB0.out.1.size))
  clear hb CC HB0
  have m0 := cell_blk HM.out 0
  go_wp2_with fail
  go_ret2
  exact ⟨HRU.out, HB1.out⟩

set_option maxHeartbeats 16000000 in
set_option maxRecDepth 100000 in
theorem encode_6 (w : World) (P : Nat → Prop) (mat nm : List UInt8) (A : Option Addr) (cp : Nat) (l : List Tm) (sc pc : Int) (A1 : Option Addr) (c1 : Nat) (l1 : List Tm) (A2 : Option Addr) (c2 : Nat) (l2 : List Tm) (txt : List UInt8)
    (hsm : mat.length ≤ 9223372036854775807) (hsn : nm.length ≤ 9223372036854775807) (h : MsIn w P A1 l1 A2 l2) (hn1 : l1.length ≤ 5000) (hn2 : l2.length ≤ 5000) (ht : Tb w)
    (hc : checkF ⟨6, mat, .mk nm l, sc, pc, l1, l2, txt⟩ = 0) :
    Calls Tryz.prog 12 #[(msgV 6 (bs mat) (bs nm) A l.length cp sc pc A1 l1.length c1 A2 l2.length c2 (bs txt))] w (OutB w (encV ⟨6, mat, .mk nm l, sc, pc, l1, l2, txt⟩)) := by
  have HB0 := Lib.hid (one_box w (.cells #[.int .i64 6, .string (bs mat), .string (bs nm), .slice A l.length cp, .int .i64 sc, .int .i64 pc, .slice A1 l1.length c1, .slice A2 l2.length c2, .string (bs txt)] 27))
  have CC := Lib.hid (check_any (w.alloc (.cells #[.int .i64 6, .string (bs mat), .string (bs nm), .slice A l.length cp, .int .i64 sc, .int .i64 pc, .slice A1 l1.length c1, .slice A2 l2.length c2, .string (bs txt)] 27)) P 6 (bs mat) (bs nm) A cp l sc pc A1 c1 l1 A2 c2 l2 (bs txt) (by rw [size_bs]; omega) (by rw [size_bs]; omega) (h.keep HB0.out.1))
  rw [toList_bs, toList_bs, toList_bs] at CC
  have HIN := Lib.hid (fun (y : World) (hy : Below w.heap.size w y) => h.keep hy)
  have HTB := Lib.hid (fun (y : World) (hy : Below w.heap.size w y) => ht.below hy)
  have hmf : ∀ (fn : Fn) (first cap : Array Value) (w : World), (Instr.makeFunc fn first cap).run Tryz.prog w = .ok (.func fn first cap) w := fun _ _ _ _ => rfl
  clear h ht
  have HOK := Lib.hid (check_ok hc)
  have HCK := Lib.hid hc
  rw [hc] at CC
  clear hc
  have hg1 : groundF l1 = true := HOK.out.2.2.2.2.2.2.2.2.2.1
  have hlen := termsT_len hg1
  have hl1 : l1.length = 1 := HOK.out.2.2.2.2.2.2.2.2.1 rfl
  have he1 := (escT_len (termsT l1)).2.1
  have hadd : ∀ y : World, (Op.stringOp .add ⟨#[109, 111, 118, 101, 32]⟩ (bs (escT (termsT l1)))).run Tryz.prog y = .ok (.string (bs ([109, 111, 118, 101, 32] ++ escT (termsT l1)))) y := fun y => str_add_b [109, 111, 118, 101, 32] _ (by simp; omega)
  have HRU := Lib.hid (encO_ok HCK.out (s := [109, 111, 118, 101, 32] ++ escT (termsT l1)) (by unfold encF encW; simp [Lib.join, List.intercalate, wMove]))
  have CL := Lib.hid (fun (y : World) (hy : Below w.heap.size w y) (hcl : y.cell? ⟨w.heap.size, 6, none⟩ = some (.slice A1 l1.length c1)) => enc_list6 y P w.heap.size A1 c1 l1 hcl hn1 (HIN.out y hy).a1 (HIN.out y hy).hP hg1)
  clear hlen hl1 he1 hg1
  generalize bs ([109, 111, 118, 101, 32] ++ escT (termsT l1)) = s9 at *
  generalize bs (escT (termsT l1)) = s8 at *
  go_enter Tryz.func12, Tryz.ntmps12
  go_wp2_with fail
  generalize w.alloc (.cells #[.int .i64 6, .string (bs mat), .string (bs nm), .slice A l.length cp, .int .i64 sc, .int .i64 pc, .slice A1 l1.length c1, .slice A2 l2.length c2, .string (bs txt)] 27) = w0 at *
  refine CC.out.mono ?_
  rintro e w1 ⟨rfl, hb⟩
  have HM := Lib.hid ((hb.block _ (heap_lt HB0.out.2)).trans HB0.out.2)
  have HB1 := Lib.hid (HB0.out.1.trans (hb.mono HB0.out.1.size))
  clear hb CC HB0
  have m0 := cell_blk HM.out 0
  have CX := Lib.hid (CL.out _ HB1.out (by have := cell_blk HM.out 6; exact this))
  go_wp2_with fail
  refine CX.out.mono ?_
  rintro e w2 ⟨rfl, hb⟩
  have HB2 := Lib.hid (HB1.out.trans (hb.mono HB1.out.size))
  clear hb
  go_wp2_with fail
  go_ret2
  exact ⟨HRU.out, HB2.out⟩

set_option maxHeartbeats 16000000 in
set_option maxRecDepth 100000 in
theorem encode_2 (w : World) (P : Nat → Prop) (mat nm : List UInt8) (A : Option Addr) (cp : Nat) (l : List Tm) (sc pc : Int) (A1 : Option Addr) (c1 : Nat) (l1 : List Tm) (A2 : Option Addr) (c2 : Nat) (l2 : List Tm) (txt : List UInt8)
    (hsm : mat.length ≤ 9223372036854775807) (hsn : nm.length ≤ 9223372036854775807) (h : MsIn w P A1 l1 A2 l2) (hn1 : l1.length ≤ 5000) (hn2 : l2.length ≤ 5000) (ht : Tb w)
    (hc : checkF ⟨2, mat, .mk nm l, sc, pc, l1, l2, txt⟩ = 0) :
    Calls Tryz.prog 12 #[(msgV 2 (bs mat) (bs nm) A l.length cp sc pc A1 l1.length c1 A2 l2.length c2 (bs txt))] w (OutB w (encV ⟨2, mat, .mk nm l, sc, pc, l1, l2, txt⟩)) := by
  have HB0 := Lib.hid (one_box w (.cells #[.int .i64 2, .string (bs mat), .string (bs nm), .slice A l.length cp, .int .i64 sc, .int .i64 pc, .slice A1 l1.length c1, .slice A2 l2.length c2, .string (bs txt)] 27))
  have CC := Lib.hid (check_any (w.alloc (.cells #[.int .i64 2, .string (bs mat), .string (bs nm), .slice A l.length cp, .int .i64 sc, .int .i64 pc, .slice A1 l1.length c1, .slice A2 l2.length c2, .string (bs txt)] 27)) P 2 (bs mat) (bs nm) A cp l sc pc A1 c1 l1 A2 c2 l2 (bs txt) (by rw [size_bs]; omega) (by rw [size_bs]; omega) (h.keep HB0.out.1))
  rw [toList_bs, toList_bs, toList_bs] at CC
  have HIN := Lib.hid (fun (y : World) (hy : Below w.heap.size w y) => h.keep hy)
  have HTB := Lib.hid (fun (y : World) (hy : Below w.heap.size w y) => ht.below hy)
  have hmf : ∀ (fn : Fn) (first cap : Array Value) (w : World), (Instr.makeFunc fn first cap).run Tryz.prog w = .ok (.func fn first cap) w := fun _ _ _ _ => rfl
  clear h ht
  have HOK := Lib.hid (check_ok hc)
  have HCK := Lib.hid hc
  rw [hc] at CC
  clear hc
  have hmat : mat.length ≤ 16 := name_le (HOK.out.2.1 (show (2 : Int) ≤ 4 by decide))
  have hg1 : groundF l1 = true := HOK.out.2.2.2.2.2.2.2.2.2.1
  have hg2 : groundF l2 = true := HOK.out.2.2.2.2.2.2.2.2.2.2.1
  have hlen1 := termsT_len hg1
  have hlen2 := termsT_len hg2
  have hl1 : l1.length ≤ 1 := HOK.out.2.2.2.2.2.2.2.1 (show (2 : Int) = 2 ∨ (2 : Int) = 3 by decide)
  have he1 := (escT_len (termsT l1)).2.1
  have he2 := (escT_len (termsT l2)).2.1
  have HRU := Lib.hid (encO_ok HCK.out (s := [112, 108, 97, 121, 32] ++ mat ++ [32] ++ escT (termsT l1) ++ [32] ++ escT (termsT l2)) (by unfold encF encW; simp [Lib.join, List.intercalate, wPlay]))
  have CL1 := Lib.hid (fun (y : World) (hy : Below w.heap.size w y) (hcl : y.cell? ⟨w.heap.size, 6, none⟩ = some (.slice A1 l1.length c1)) => enc_list6 y P w.heap.size A1 c1 l1 hcl hn1 (HIN.out y hy).a1 (HIN.out y hy).hP hg1)
  have CL2 := Lib.hid (fun (y : World) (hy : Below w.heap.size w y) (hcl : y.cell? ⟨w.heap.size, 7, none⟩ = some (.slice A2 l2.length c2)) => enc_list7 y P w.heap.size A2 c2 l2 hcl hn2 (HIN.out y hy).a2 (HIN.out y hy).hP hg2)
  generalize escT (termsT l1) = x1 at *
  generalize escT (termsT l2) = x2 at *
  have a1 : ∀ y : World, (Op.stringOp .add ⟨#[112, 108, 97, 121, 32]⟩ (bs mat)).run Tryz.prog y = .ok (.string (bs ([112, 108, 97, 121, 32] ++ mat))) y := fun y => str_add_b [112, 108, 97, 121, 32] mat (by simp; omega)
  have a2 : ∀ y : World, (Op.stringOp .add (bs ([112, 108, 97, 121, 32] ++ mat)) ⟨#[32]⟩).run Tryz.prog y = .ok (.string (bs ([112, 108, 97, 121, 32] ++ mat ++ [32]))) y := fun y => str_add_b _ [32] (by simp; omega)
  have a3 : ∀ y : World, (Op.stringOp .add (bs ([112, 108, 97, 121, 32] ++ mat ++ [32])) (bs x1)).run Tryz.prog y = .ok (.string (bs ([112, 108, 97, 121, 32] ++ mat ++ [32] ++ x1))) y := fun y => str_add_b _ x1 (by simp; omega)
  have a4 : ∀ y : World, (Op.stringOp .add (bs ([112, 108, 97, 121, 32] ++ mat ++ [32] ++ x1)) ⟨#[32]⟩).run Tryz.prog y = .ok (.string (bs ([112, 108, 97, 121, 32] ++ mat ++ [32] ++ x1 ++ [32]))) y := fun y => str_add_b _ [32] (by simp; omega)
  have a5 : ∀ y : World, (Op.stringOp .add (bs ([112, 108, 97, 121, 32] ++ mat ++ [32] ++ x1 ++ [32])) (bs x2)).run Tryz.prog y = .ok (.string (bs ([112, 108, 97, 121, 32] ++ mat ++ [32] ++ x1 ++ [32] ++ x2))) y := fun y => str_add_b _ x2 (by simp; omega)
  clear hlen1 hlen2 hl1 he1 he2 hg1 hg2 hmat
  generalize bs ([112, 108, 97, 121, 32] ++ mat ++ [32] ++ x1 ++ [32] ++ x2) = s5 at *
  generalize bs ([112, 108, 97, 121, 32] ++ mat ++ [32] ++ x1 ++ [32]) = s4 at *
  generalize bs ([112, 108, 97, 121, 32] ++ mat ++ [32] ++ x1) = s3 at *
  generalize bs ([112, 108, 97, 121, 32] ++ mat ++ [32]) = s2 at *
  generalize bs ([112, 108, 97, 121, 32] ++ mat) = s1 at *
  generalize bs x1 = sx1 at *
  generalize bs x2 = sx2 at *
  generalize bs mat = smat at *
  generalize bs nm = snm at *
  generalize bs txt = stxt at *
  go_enter Tryz.func12, Tryz.ntmps12
  go_wp2_with fail
  generalize w.alloc (.cells #[.int .i64 2, .string (bs mat), .string (bs nm), .slice A l.length cp, .int .i64 sc, .int .i64 pc, .slice A1 l1.length c1, .slice A2 l2.length c2, .string (bs txt)] 27) = w0 at *
  refine CC.out.mono ?_
  rintro e w1 ⟨rfl, hb⟩
  have HM := Lib.hid ((hb.block _ (heap_lt HB0.out.2)).trans HB0.out.2)
  have HB1 := Lib.hid (HB0.out.1.trans (hb.mono HB0.out.1.size))
  clear hb CC HB0
  have m0 := cell_blk HM.out 0
  have CX1 := Lib.hid (fun (y : World) (hy : Below w1.heap.size w1 y) => CL1.out y (HB1.out.trans (hy.mono HB1.out.size)) ((hy.cell (p := ⟨w.heap.size, 6, none⟩) (heap_lt HM.out)).trans (cell_blk HM.out 6)))
  have CX2 := Lib.hid (fun (y : World) (hy : Below w1.heap.size w1 y) => CL2.out y (HB1.out.trans (hy.mono HB1.out.size)) ((hy.cell (p := ⟨w.heap.size, 7, none⟩) (heap_lt HM.out)).trans (cell_blk HM.out 7)))
  have HC : Hid (w1.cell? ⟨w.heap.size, 1, none⟩ = some (.string smat) ∧ w.heap.size < w1.heap.size) := ⟨cell_blk HM.out 1, heap_lt HM.out⟩
  have HR0 := Lib.hid (Below.refl w1.heap.size w1)
  clear CL1 CL2
  go_wp2_with fail
  clear m0
  go_region_held3 (fun y => y.cell? ⟨w.heap.size, 1, none⟩ = some (.string smat) ∧ Hid (Below w1.heap.size w1 y)) (first | (exact keep1 HC.out (Below.drew HR0.out)) | (exact keep1 HC.out (Below.drew (last1 ‹_ ∧ Hid _›))) | (exact keep1 HC.out (trans1h (Lib.hid (last1 ‹_ ∧ Hid _›)) hb9))) (first | (go_at_call 33; refine (CX1.out _ (last1 ‹_ ∧ Hid _›)).mono ?_; rintro e9 w9 ⟨rfl, hb9⟩) | (go_at_call 35; refine (CX2.out _ (last1 ‹_ ∧ Hid _›)).mono ?_; rintro e9 w9 ⟨rfl, hb9⟩))
  go_wp2_with fail
  go_ret2
  exact ⟨HRU.out, HB1.out.trans (Below.mono (last1 ‹_ ∧ Hid _›) HB1.out.size)⟩

set_option maxHeartbeats 16000000 in
set_option maxRecDepth 100000 in
theorem encode_3 (w : World) (P : Nat → Prop) (mat nm : List UInt8) (A : Option Addr) (cp : Nat) (l : List Tm) (sc pc : Int) (A1 : Option Addr) (c1 : Nat) (l1 : List Tm) (A2 : Option Addr) (c2 : Nat) (l2 : List Tm) (txt : List UInt8)
    (hsm : mat.length ≤ 9223372036854775807) (hsn : nm.length ≤ 9223372036854775807) (h : MsIn w P A1 l1 A2 l2) (hn1 : l1.length ≤ 5000) (hn2 : l2.length ≤ 5000) (ht : Tb w)
    (hc : checkF ⟨3, mat, .mk nm l, sc, pc, l1, l2, txt⟩ = 0) :
    Calls Tryz.prog 12 #[(msgV 3 (bs mat) (bs nm) A l.length cp sc pc A1 l1.length c1 A2 l2.length c2 (bs txt))] w (OutB w (encV ⟨3, mat, .mk nm l, sc, pc, l1, l2, txt⟩)) := by
  have HB0 := Lib.hid (one_box w (.cells #[.int .i64 3, .string (bs mat), .string (bs nm), .slice A l.length cp, .int .i64 sc, .int .i64 pc, .slice A1 l1.length c1, .slice A2 l2.length c2, .string (bs txt)] 27))
  have CC := Lib.hid (check_any (w.alloc (.cells #[.int .i64 3, .string (bs mat), .string (bs nm), .slice A l.length cp, .int .i64 sc, .int .i64 pc, .slice A1 l1.length c1, .slice A2 l2.length c2, .string (bs txt)] 27)) P 3 (bs mat) (bs nm) A cp l sc pc A1 c1 l1 A2 c2 l2 (bs txt) (by rw [size_bs]; omega) (by rw [size_bs]; omega) (h.keep HB0.out.1))
  rw [toList_bs, toList_bs, toList_bs] at CC
  have HIN := Lib.hid (fun (y : World) (hy : Below w.heap.size w y) => h.keep hy)
  have HTB := Lib.hid (fun (y : World) (hy : Below w.heap.size w y) => ht.below hy)
  have hmf : ∀ (fn : Fn) (first cap : Array Value) (w : World), (Instr.makeFunc fn first cap).run Tryz.prog w = .ok (.func fn first cap) w := fun _ _ _ _ => rfl
  clear h ht
  have HOK := Lib.hid (check_ok hc)
  have HCK := Lib.hid hc
  rw [hc] at CC
  clear hc
  have hmat : mat.length ≤ 16 := name_le (HOK.out.2.1 (show (3 : Int) ≤ 4 by decide))
  have hg1 : groundF l1 = true := HOK.out.2.2.2.2.2.2.2.2.2.1
  have hg2 : groundF l2 = true := HOK.out.2.2.2.2.2.2.2.2.2.2.1
  have hlen1 := termsT_len hg1
  have hlen2 := termsT_len hg2
  have hl1 : l1.length ≤ 1 := HOK.out.2.2.2.2.2.2.2.1 (show (3 : Int) = 2 ∨ (3 : Int) = 3 by decide)
  have he1 := (escT_len (termsT l1)).2.1
  have he2 := (escT_len (termsT l2)).2.1
  have HRU := Lib.hid (encO_ok HCK.out (s := [115, 116, 111, 112, 32] ++ mat ++ [32] ++ escT (termsT l1) ++ [32] ++ escT (termsT l2)) (by unfold encF encW; simp [Lib.join, List.intercalate, wStop]))
  have CL1 := Lib.hid (fun (y : World) (hy : Below w.heap.size w y) (hcl : y.cell? ⟨w.heap.size, 6, none⟩ = some (.slice A1 l1.length c1)) => enc_list6 y P w.heap.size A1 c1 l1 hcl hn1 (HIN.out y hy).a1 (HIN.out y hy).hP hg1)
  have CL2 := Lib.hid (fun (y : World) (hy : Below w.heap.size w y) (hcl : y.cell? ⟨w.heap.size, 7, none⟩ = some (.slice A2 l2.length c2)) => enc_list7 y P w.heap.size A2 c2 l2 hcl hn2 (HIN.out y hy).a2 (HIN.out y hy).hP hg2)
  generalize escT (termsT l1) = x1 at *
  generalize escT (termsT l2) = x2 at *
  have a1 : ∀ y : World, (Op.stringOp .add ⟨#[115, 116, 111, 112, 32]⟩ (bs mat)).run Tryz.prog y = .ok (.string (bs ([115, 116, 111, 112, 32] ++ mat))) y := fun y => str_add_b [115, 116, 111, 112, 32] mat (by simp; omega)
  have a2 : ∀ y : World, (Op.stringOp .add (bs ([115, 116, 111, 112, 32] ++ mat)) ⟨#[32]⟩).run Tryz.prog y = .ok (.string (bs ([115, 116, 111, 112, 32] ++ mat ++ [32]))) y := fun y => str_add_b _ [32] (by simp; omega)
  have a3 : ∀ y : World, (Op.stringOp .add (bs ([115, 116, 111, 112, 32] ++ mat ++ [32])) (bs x1)).run Tryz.prog y = .ok (.string (bs ([115, 116, 111, 112, 32] ++ mat ++ [32] ++ x1))) y := fun y => str_add_b _ x1 (by simp; omega)
  have a4 : ∀ y : World, (Op.stringOp .add (bs ([115, 116, 111, 112, 32] ++ mat ++ [32] ++ x1)) ⟨#[32]⟩).run Tryz.prog y = .ok (.string (bs ([115, 116, 111, 112, 32] ++ mat ++ [32] ++ x1 ++ [32]))) y := fun y => str_add_b _ [32] (by simp; omega)
  have a5 : ∀ y : World, (Op.stringOp .add (bs ([115, 116, 111, 112, 32] ++ mat ++ [32] ++ x1 ++ [32])) (bs x2)).run Tryz.prog y = .ok (.string (bs ([115, 116, 111, 112, 32] ++ mat ++ [32] ++ x1 ++ [32] ++ x2))) y := fun y => str_add_b _ x2 (by simp; omega)
  clear hlen1 hlen2 hl1 he1 he2 hg1 hg2 hmat
  generalize bs ([115, 116, 111, 112, 32] ++ mat ++ [32] ++ x1 ++ [32] ++ x2) = s5 at *
  generalize bs ([115, 116, 111, 112, 32] ++ mat ++ [32] ++ x1 ++ [32]) = s4 at *
  generalize bs ([115, 116, 111, 112, 32] ++ mat ++ [32] ++ x1) = s3 at *
  generalize bs ([115, 116, 111, 112, 32] ++ mat ++ [32]) = s2 at *
  generalize bs ([115, 116, 111, 112, 32] ++ mat) = s1 at *
  generalize bs x1 = sx1 at *
  generalize bs x2 = sx2 at *
  generalize bs mat = smat at *
  generalize bs nm = snm at *
  generalize bs txt = stxt at *
  go_enter Tryz.func12, Tryz.ntmps12
  go_wp2_with fail
  generalize w.alloc (.cells #[.int .i64 3, .string (bs mat), .string (bs nm), .slice A l.length cp, .int .i64 sc, .int .i64 pc, .slice A1 l1.length c1, .slice A2 l2.length c2, .string (bs txt)] 27) = w0 at *
  refine CC.out.mono ?_
  rintro e w1 ⟨rfl, hb⟩
  have HM := Lib.hid ((hb.block _ (heap_lt HB0.out.2)).trans HB0.out.2)
  have HB1 := Lib.hid (HB0.out.1.trans (hb.mono HB0.out.1.size))
  clear hb CC HB0
  have m0 := cell_blk HM.out 0
  have CX1 := Lib.hid (fun (y : World) (hy : Below w1.heap.size w1 y) => CL1.out y (HB1.out.trans (hy.mono HB1.out.size)) ((hy.cell (p := ⟨w.heap.size, 6, none⟩) (heap_lt HM.out)).trans (cell_blk HM.out 6)))
  have CX2 := Lib.hid (fun (y : World) (hy : Below w1.heap.size w1 y) => CL2.out y (HB1.out.trans (hy.mono HB1.out.size)) ((hy.cell (p := ⟨w.heap.size, 7, none⟩) (heap_lt HM.out)).trans (cell_blk HM.out 7)))
  have HC : Hid (w1.cell? ⟨w.heap.size, 1, none⟩ = some (.string smat) ∧ w.heap.size < w1.heap.size) := ⟨cell_blk HM.out 1, heap_lt HM.out⟩
  have HR0 := Lib.hid (Below.refl w1.heap.size w1)
  clear CL1 CL2
  go_wp2_with fail
  clear m0
  go_region_held3 (fun y => y.cell? ⟨w.heap.size, 1, none⟩ = some (.string smat) ∧ Hid (Below w1.heap.size w1 y)) (first | (exact keep1 HC.out (Below.drew HR0.out)) | (exact keep1 HC.out (Below.drew (last1 ‹_ ∧ Hid _›))) | (exact keep1 HC.out (trans1h (Lib.hid (last1 ‹_ ∧ Hid _›)) hb9))) (first | (go_at_call 33; refine (CX1.out _ (last1 ‹_ ∧ Hid _›)).mono ?_; rintro e9 w9 ⟨rfl, hb9⟩) | (go_at_call 35; refine (CX2.out _ (last1 ‹_ ∧ Hid _›)).mono ?_; rintro e9 w9 ⟨rfl, hb9⟩))
  go_wp2_with fail
  go_ret2
  exact ⟨HRU.out, HB1.out.trans (Below.mono (last1 ‹_ ∧ Hid _›) HB1.out.size)⟩


end
/- The walk of message.Encode of a start message, and of any message. -/
section
open Go Go.RowKit Go.Shelf
set_option linter.unusedSimpArgs false
set_option linter.unusedVariables false

theorem keep5 {w4 x : World} {q : Nat} {v1 v2 v4 v5 v8 : Value} (h : w4.cell? ⟨q, 1, none⟩ = some v1 ∧ w4.cell? ⟨q, 2, none⟩ = some v2 ∧ w4.cell? ⟨q, 4, none⟩ = some v4 ∧ w4.cell? ⟨q, 5, none⟩ = some v5 ∧ w4.cell? ⟨q, 8, none⟩ = some v8 ∧ q < w4.heap.size) (hb : Below w4.heap.size w4 x) :
    x.cell? ⟨q, 1, none⟩ = some v1 ∧ x.cell? ⟨q, 2, none⟩ = some v2 ∧ x.cell? ⟨q, 4, none⟩ = some v4 ∧ x.cell? ⟨q, 5, none⟩ = some v5 ∧ x.cell? ⟨q, 8, none⟩ = some v8 ∧ Hid (Below w4.heap.size w4 x) := by
  obtain ⟨h1, h2, h4, h5, h8, hl⟩ := h
  exact ⟨(hb.cell (p := ⟨q, 1, none⟩) hl).trans h1, (hb.cell (p := ⟨q, 2, none⟩) hl).trans h2, (hb.cell (p := ⟨q, 4, none⟩) hl).trans h4, (hb.cell (p := ⟨q, 5, none⟩) hl).trans h5, (hb.cell (p := ⟨q, 8, none⟩) hl).trans h8, hb⟩
theorem last5 {p1 p2 p3 p4 p5 p : Prop} (h : p1 ∧ p2 ∧ p3 ∧ p4 ∧ p5 ∧ Hid p) : p := h.2.2.2.2.2.out
theorem alloc1h {w a : World} (h : Below w.heap.size w a) (o : Obj) : Below w.heap.size w (a.alloc o) := h.alloc h.size o
theorem join_six (y : World) (x0 x1 x2 x3 x4 x5 : List UInt8) (hm : (Lib.join [x0, x1, x2, x3, x4, x5] [32]).length ≤ 140737488355328) :
    Calls Tryz.prog 36 #[.slice (some ⟨y.heap.size, 0, none⟩) 6 6, .string ⟨#[32]⟩] (y.alloc (.cells #[.string (bs x0), .string (bs x1), .string (bs x2), .string (bs x3), .string (bs x4), .string (bs x5)] 9)) (OutB (y.alloc (.cells #[.string (bs x0), .string (bs x1), .string (bs x2), .string (bs x3), .string (bs x4), .string (bs x5)] 9)) (.string (bs (Lib.join [x0, x1, x2, x3, x4, x5] [32])))) := by
  have hh := heap_alloc_new y (.cells #[.string (bs x0), .string (bs x1), .string (bs x2), .string (bs x3), .string (bs x4), .string (bs x5)] 9)
  have hc := cell_blk hh
  have := strings_Join y.heap.size 0 6 ([x0, x1, x2, x3, x4, x5].map bs) (bs [32]) (y.alloc (.cells #[.string (bs x0), .string (bs x1), .string (bs x2), .string (bs x3), .string (bs x4), .string (bs x5)] 9)) (fun j u hj => by
    rw [Nat.zero_add, hc j]
    match j, hj with
    | 0, hj => simp at hj ⊢; exact hj
    | 1, hj => simp at hj ⊢; exact hj
    | 2, hj => simp at hj ⊢; exact hj
    | 3, hj => simp at hj ⊢; exact hj
    | 4, hj => simp at hj ⊢; exact hj
    | 5, hj => simp at hj ⊢; exact hj
    | j + 6, hj => simp at hj) (heap_lt hh) (by simp) (by simp) (by
      have e : (([x0, x1, x2, x3, x4, x5].map bs).map (·.data.toList)) = [x0, x1, x2, x3, x4, x5] := by simp [toList_bs]
      rw [e, toList_bs]; exact hm)
  have e : (([x0, x1, x2, x3, x4, x5].map bs).map (·.data.toList)) = [x0, x1, x2, x3, x4, x5] := by simp [toList_bs]
  rw [e, toList_bs] at this
  exact this

set_option maxHeartbeats 16000000 in
set_option maxRecDepth 100000 in
theorem encode_1 (w : World) (P : Nat → Prop) (mat nm : List UInt8) (A : Option Addr) (cp : Nat) (l : List Tm) (sc pc : Int) (A1 : Option Addr) (c1 : Nat) (l1 : List Tm) (A2 : Option Addr) (c2 : Nat) (l2 : List Tm) (txt : List UInt8)
    (hsm : mat.length ≤ 9223372036854775807) (hsn : nm.length ≤ 9223372036854775807) (h : MsIn w P A1 l1 A2 l2) (hn1 : l1.length ≤ 5000) (hn2 : l2.length ≤ 5000) (ht : Tb w)
    (htx : txt.length ≤ 100000000)
    (hc : checkF ⟨1, mat, .mk nm l, sc, pc, l1, l2, txt⟩ = 0) :
    Calls Tryz.prog 12 #[(msgV 1 (bs mat) (bs nm) A l.length cp sc pc A1 l1.length c1 A2 l2.length c2 (bs txt))] w (OutB w (encV ⟨1, mat, .mk nm l, sc, pc, l1, l2, txt⟩)) := by
  have HB0 := Lib.hid (one_box w (.cells #[.int .i64 1, .string (bs mat), .string (bs nm), .slice A l.length cp, .int .i64 sc, .int .i64 pc, .slice A1 l1.length c1, .slice A2 l2.length c2, .string (bs txt)] 27))
  have CC := Lib.hid (check_any (w.alloc (.cells #[.int .i64 1, .string (bs mat), .string (bs nm), .slice A l.length cp, .int .i64 sc, .int .i64 pc, .slice A1 l1.length c1, .slice A2 l2.length c2, .string (bs txt)] 27)) P 1 (bs mat) (bs nm) A cp l sc pc A1 c1 l1 A2 c2 l2 (bs txt) (by rw [size_bs]; omega) (by rw [size_bs]; omega) (h.keep HB0.out.1))
  rw [toList_bs, toList_bs, toList_bs] at CC
  have HIN := Lib.hid (fun (y : World) (hy : Below w.heap.size w y) => h.keep hy)
  have HTB := Lib.hid (fun (y : World) (hy : Below w.heap.size w y) => ht.below hy)
  have hmf : ∀ (fn : Fn) (first cap : Array Value) (w : World), (Instr.makeFunc fn first cap).run Tryz.prog w = .ok (.func fn first cap) w := fun _ _ _ _ => rfl
  clear h ht
  have HOK := Lib.hid (check_ok hc)
  have HCK := Lib.hid hc
  rw [hc] at CC
  clear hc
  obtain ⟨hnm, _, hsc1, hsc2, hpc1, hpc2⟩ := HOK.out.2.2.2.1 rfl
  have hnm : nm.length ≤ 16 := name_le hnm
  have hsc1 : 1 ≤ sc := hsc1
  have hsc2 : sc ≤ 1000 := hsc2
  have hpc1 : 1 ≤ pc := hpc1
  have hpc2 : pc ≤ 1000 := hpc2
  have hmat : mat.length ≤ 16 := name_le (HOK.out.2.1 (show (1 : Int) ≤ 4 by decide))
  have hiS : I64 sc := ⟨by omega, by omega⟩
  have hiP : I64 pc := ⟨by omega, by omega⟩
  have hls := Lib.itoa_length_le sc hiS.1 hiS.2
  have hlp := Lib.itoa_length_le pc hiP.1 hiP.2
  have he1 := (escT_len txt).2.1
  have HRU := Lib.hid (encO_ok HCK.out (s := Lib.join [wStart, mat, nm, Lib.itoa sc, Lib.itoa pc, escT txt] [32]) rfl)
  have hjl : (Lib.join [wStart, mat, nm, Lib.itoa sc, Lib.itoa pc, escT txt] [32]).length ≤ 140737488355328 := by
    rw [Lib.join_cons]
    simp [Lib.joinTail, wStart]
    omega
  have CJ := Lib.hid (fun (y : World) => join_six y wStart mat nm (Lib.itoa sc) (Lib.itoa pc) (escT txt) hjl)
  have CI1 := Lib.hid (fun (y : World) (hy : Below w.heap.size w y) => itoa_below y sc hiS (HTB.out y hy))
  have CI2 := Lib.hid (fun (y : World) (hy : Below w.heap.size w y) => itoa_below y pc hiP (HTB.out y hy))
  have CE := Lib.hid (fun (y : World) => escape_any y (bs txt) (by rw [size_bs]; exact htx))
  rw [toList_bs] at CE
  clear hls hlp he1 hjl hnm hmat hsc1 hsc2 hpc1 hpc2 hiS hiP htx
  rw [show bs wStart = ⟨#[115, 116, 97, 114, 116]⟩ from rfl] at CJ
  generalize bs (Lib.join [wStart, mat, nm, Lib.itoa sc, Lib.itoa pc, escT txt] [32]) = s9 at *
  generalize bs (Lib.itoa sc) = s3 at *
  generalize bs (Lib.itoa pc) = s4 at *
  generalize bs (escT txt) = s5 at *
  generalize bs mat = smat at *
  generalize bs nm = snm at *
  generalize bs txt = stxt at *
  go_enter Tryz.func12, Tryz.ntmps12
  go_wp2_with fail
  generalize w.alloc (.cells #[.int .i64 1, .string (bs mat), .string (bs nm), .slice A l.length cp, .int .i64 sc, .int .i64 pc, .slice A1 l1.length c1, .slice A2 l2.length c2, .string (bs txt)] 27) = w0 at *
  refine CC.out.mono ?_
  rintro e w1 ⟨rfl, hb⟩
  have HM := Lib.hid ((hb.block _ (heap_lt HB0.out.2)).trans HB0.out.2)
  have HB1 := Lib.hid (HB0.out.1.trans (hb.mono HB0.out.1.size))
  clear hb CC HB0
  have m0 := cell_blk HM.out 0
  have CX1 := Lib.hid (fun (y : World) (hy : Below w1.heap.size w1 y) => CI1.out y (HB1.out.trans (hy.mono HB1.out.size)))
  have CX2 := Lib.hid (fun (y : World) (hy : Below w1.heap.size w1 y) => CI2.out y (HB1.out.trans (hy.mono HB1.out.size)))
  have c := cell_blk HM.out
  have HC : Hid (w1.cell? ⟨w.heap.size, 1, none⟩ = some (.string smat) ∧ w1.cell? ⟨w.heap.size, 2, none⟩ = some (.string snm) ∧ w1.cell? ⟨w.heap.size, 4, none⟩ = some (.int .i64 sc) ∧ w1.cell? ⟨w.heap.size, 5, none⟩ = some (.int .i64 pc) ∧ w1.cell? ⟨w.heap.size, 8, none⟩ = some (.string stxt) ∧ w.heap.size < w1.heap.size) := ⟨c 1, c 2, c 4, c 5, c 8, heap_lt HM.out⟩
  have HR0 := Lib.hid (Below.refl w1.heap.size w1)
  clear CI1 CI2 c
  go_wp2_with fail
  clear m0
  go_region_held3 (fun y => y.cell? ⟨w.heap.size, 1, none⟩ = some (.string smat) ∧ y.cell? ⟨w.heap.size, 2, none⟩ = some (.string snm) ∧ y.cell? ⟨w.heap.size, 4, none⟩ = some (.int .i64 sc) ∧ y.cell? ⟨w.heap.size, 5, none⟩ = some (.int .i64 pc) ∧ y.cell? ⟨w.heap.size, 8, none⟩ = some (.string stxt) ∧ Hid (Below w1.heap.size w1 y)) (first | (exact keep5 HC.out (Below.drew HR0.out)) | (exact keep5 HC.out (Below.drew (last5 ‹_ ∧ _ ∧ _ ∧ _ ∧ _ ∧ Hid _›))) | (exact keep5 HC.out (trans1h (Lib.hid (last5 ‹_ ∧ _ ∧ _ ∧ _ ∧ _ ∧ Hid _›)) hb9)) | (exact keep5 HC.out (alloc1h (last5 ‹_ ∧ _ ∧ _ ∧ _ ∧ _ ∧ Hid _›) _))) (first | (go_at_call 37; refine (CX1.out _ (last5 ‹_ ∧ _ ∧ _ ∧ _ ∧ _ ∧ Hid _›)).mono ?_; rintro e9 w9 ⟨rfl, hb9⟩) | (go_at_call 37; refine (CX2.out _ (last5 ‹_ ∧ _ ∧ _ ∧ _ ∧ _ ∧ Hid _›)).mono ?_; rintro e9 w9 ⟨rfl, hb9⟩) | (go_at_call 14; refine (CE.out _).mono ?_; rintro e9 w9 ⟨rfl, hb9⟩) | (go_at_call 36; refine (CJ.out _).mono ?_; rintro e9 w9 ⟨rfl, hb9⟩))
  go_wp2_with fail
  go_ret2
  exact ⟨HRU.out, HB1.out.trans (Below.mono (last5 ‹_ ∧ _ ∧ _ ∧ _ ∧ _ ∧ Hid _›) HB1.out.size)⟩

theorem encode_any (w : World) (P : Nat → Prop) (k : Int) (mat nm : List UInt8) (A : Option Addr) (cp : Nat) (l : List Tm) (sc pc : Int) (A1 : Option Addr) (c1 : Nat) (l1 : List Tm) (A2 : Option Addr) (c2 : Nat) (l2 : List Tm) (txt : List UInt8)
    (hsm : mat.length ≤ 9223372036854775807) (hsn : nm.length ≤ 9223372036854775807) (h : MsIn w P A1 l1 A2 l2) (hn1 : l1.length ≤ 5000) (hn2 : l2.length ≤ 5000) (ht : Tb w) (htx : txt.length ≤ 100000000) :
    Calls Tryz.prog 12 #[msgV k (bs mat) (bs nm) A l.length cp sc pc A1 l1.length c1 A2 l2.length c2 (bs txt)] w (OutB w (encV ⟨k, mat, .mk nm l, sc, pc, l1, l2, txt⟩)) := by
  by_cases hc : checkF ⟨k, mat, .mk nm l, sc, pc, l1, l2, txt⟩ = 0
  · have hk := (check_ok hc).1
    have hk : 1 ≤ k ∧ k ≤ 7 := hk
    have h7 : k = 1 ∨ k = 2 ∨ k = 3 ∨ k = 4 ∨ k = 5 ∨ k = 6 ∨ k = 7 := by omega
    rcases h7 with rfl | rfl | rfl | rfl | rfl | rfl | rfl
    · exact encode_1 w P _ _ _ _ _ _ _ _ _ _ _ _ _ _ hsm hsn h hn1 hn2 ht htx hc
    · exact encode_2 w P _ _ _ _ _ _ _ _ _ _ _ _ _ _ hsm hsn h hn1 hn2 ht hc
    · exact encode_3 w P _ _ _ _ _ _ _ _ _ _ _ _ _ _ hsm hsn h hn1 hn2 ht hc
    · exact encode_4 w P _ _ _ _ _ _ _ _ _ _ _ _ _ _ hsm hsn h hn1 hn2 ht hc
    · exact encode_5 w P _ _ _ _ _ _ _ _ _ _ _ _ _ _ hsm hsn h hn1 hn2 ht hc
    · exact encode_6 w P _ _ _ _ _ _ _ _ _ _ _ _ _ _ hsm hsn h hn1 hn2 ht hc
    · exact encode_7 w P _ _ _ _ _ _ _ _ _ _ _ _ _ _ hsm hsn h hn1 hn2 ht hc
  · exact encode_no w P k _ _ _ _ _ _ _ _ _ _ _ _ _ _ hsm hsn h hn1 hn2 ht hc


end
end Go.Proofs.YtmplpbdldcokjaaGreatDoor
