/- The walks of Position, of the program and of the reference. -/
import Derived.Test.YtmpdnmnimdkfnaaDoorTj
namespace Go.Proofs.YtmpdnmnimdkfnaaDoor
open Go Go.RowKit Go.Shelf
set_option linter.unusedSimpArgs false

def posStep (p : Int × Int) (c : UInt8) : Int × Int := if bInt c == 10 then (p.1 + 1, 1) else (p.1, p.2 + 1)
def posL (l : List UInt8) : Int × Int := l.foldl posStep (1, 1)
def posF (s : List UInt8) (at_ : Int) : Int × Int := if at_ < 0 ∨ (s.length : Int) < at_ then (0, 0) else posL (s.take at_.toNat)
theorem posL_snoc (l : List UInt8) (c : UInt8) : posL (l ++ [c]) = posStep (posL l) c := by unfold posL; rw [List.foldl_append]; rfl
theorem posL_bd (l : List UInt8) : 1 ≤ (posL l).1 ∧ (posL l).1 ≤ l.length + 1 ∧ 1 ≤ (posL l).2 ∧ (posL l).2 ≤ l.length + 1 := by
  suffices h : ∀ (l : List UInt8) (p : Int × Int), p.1 ≤ (l.foldl posStep p).1 ∧ (l.foldl posStep p).1 ≤ l.length + p.1 ∧ (1 ≤ p.2 → 1 ≤ (l.foldl posStep p).2 ∧ (l.foldl posStep p).2 ≤ l.length + p.2) by
    have := h l (1, 1)
    have h2 := this.2.2 (by decide)
    exact ⟨this.1, this.2.1, h2.1, h2.2⟩
  intro l
  induction l with
  | nil => intro p; simp
  | cons c r ih =>
    intro p
    have := ih (posStep p c)
    simp only [List.foldl_cons, List.length_cons]
    have hs : (posStep p c = (p.1 + 1, 1)) ∨ (posStep p c = (p.1, p.2 + 1)) := by
      unfold posStep; split
      · exact Or.inl rfl
      · exact Or.inr rfl
    rcases hs with e | e <;> rw [e] at this ⊢ <;> simp only at this ⊢ <;> refine ⟨by omega, by omega, fun hp => ⟨by have := this.2.2 (by omega); omega, by have := this.2.2 (by omega); omega⟩⟩
theorem pos_lib (t : ByteArray) : ∀ k, k ≤ t.size → posL (t.data.toList.take k) = ((Lib.countByte (t.data.toList.take k) 10 : Int) + 1, (k : Int) - Lib.lastIdx t 10 k)
  | 0, _ => rfl
  | k + 1, hk => by
    have hsl : t.data.toList.length = t.size := by simp
    have hl : k < t.data.toList.length := by omega
    have ih := pos_lib t k (by omega)
    rw [List.take_succ_eq_append_getElem hl, posL_snoc, ih]
    have hg : t.data[k]! = t.data.toList[k] := by
      rw [getElem!_pos t.data k (by simpa using hl)]
      simp
    have hhit := Lib.lastIdx_hit t 10 k
    have hmiss := Lib.lastIdx_miss t 10 k
    rw [hg] at hhit hmiss
    unfold Lib.countByte posStep
    rw [List.count_append]
    generalize Lib.lastIdx t 10 (k + 1) = L1 at *
    generalize Lib.lastIdx t 10 k = L0 at *
    clear hg
    generalize t.data.toList[k] = c at *
    have hb : bInt c = (c.toNat : Int) := rfl
    by_cases h10 : c = 10
    · subst h10
      have := hhit rfl
      simp [bInt]
      omega
    · have h1 : (bInt c == 10) = false := by
        rw [beq_eq_false_iff_ne]
        intro h
        exact h10 (UInt8.toNat_inj.1 (by unfold bInt at h; show c.toNat = 10; omega))
      have h2 : ¬ ((c.toNat : Int) = 10) := by have := beq_eq_false_iff_ne.1 h1; exact this
      have := hmiss h2
      rw [if_neg (by rw [h1]; exact Bool.false_ne_true)]
      simp [List.count_cons, h10]
      omega
theorem pos_of (t : ByteArray) : posL t.data.toList = ((Lib.countByte t.data.toList 10 : Int) + 1, (t.size : Int) - Lib.lastIndexByte t 10) := by
  have := pos_lib t t.size (Nat.le_refl _)
  rwa [List.take_of_length_le (by simp)] at this

def Out2 (w : World) (p : Int × Int) (e : Ending) (w' : World) : Prop := e = .returned (.tuple #[.int .i64 p.1, .int .i64 p.2]) ∧ w = w'
set_option maxHeartbeats 4000000 in
set_option maxRecDepth 100000 in
theorem position_any (w : World) (s : ByteArray) (n : Int) (hs : (s.size : Int) ≤ 1000000000) : Calls Tryd.prog 18 #[.string s, .int .i64 n] w (Out2 w (posF s.data.toList n)) := by
  have hlen : s.data.toList.length = s.size := by simp
  by_cases h0 : n < 0
  focus
    have HR : Hid (posF s.data.toList n = (0, 0)) := by unfold Hid posF; rw [if_pos (Or.inl h0)]
    have t1 : decide (n < 0) = true := by simpa using h0
    go_enter Tryd.func18, Tryd.ntmps18
    go_wp2_with fail
    go_ret2
    unfold Out2
    rw [HR.out]
    exact ⟨rfl, rfl⟩
  have t1 : decide (n < 0) = false := by simpa using h0
  by_cases h1 : (s.size : Int) < n
  focus
    have HR : Hid (posF s.data.toList n = (0, 0)) := by unfold Hid posF; rw [if_pos (Or.inr (by rw [hlen]; exact h1))]
    have t2 : decide ((s.size : Int) < n) = true := by simpa using h1
    go_enter Tryd.func18, Tryd.ntmps18
    go_wp2_with fail
    go_ret2
    unfold Out2
    rw [HR.out]
    exact ⟨rfl, rfl⟩
  have t2 : decide ((s.size : Int) < n) = false := by simpa using h1
  obtain ⟨k, rfl⟩ : ∃ k : Nat, n = k := ⟨n.toNat, by omega⟩
  have hk : k ≤ s.size := by omega
  have hsz : (s.extract 0 k).size = k := by rw [ByteArray.size_extract]; omega
  have hex : (s.extract 0 k).data.toList = s.data.toList.take k := by rw [extract_bs, toList_bs]; simp
  have hpos := pos_of (s.extract 0 k)
  rw [hsz, hex] at hpos
  have HR : Hid (posF s.data.toList (k : Int) = ((Lib.countByte (s.data.toList.take k) 10 : Int) + 1, (k : Int) - Lib.lastIndexByte (s.extract 0 k) 10)) := by
    unfold Hid posF
    rw [if_neg (by rw [hlen]; omega), Int.toNat_natCast, hpos]
  have hbd := posL_bd (s.data.toList.take k)
  rw [hpos] at hbd
  have hlt : (s.data.toList.take k).length ≤ k := List.length_take_le _ _
  have CC := Lib.hid (strings_Count_one (s.extract 0 k) 10)
  rw [hex] at CC
  have CL := Lib.hid (strings_LastIndexByte (s.extract 0 k) 10 (by rw [hsz]; omega))
  generalize (Lib.countByte (s.data.toList.take k) 10) = cn at *
  generalize Lib.lastIndexByte (s.extract 0 k) 10 = li at *
  obtain ⟨b1, b2, b3, b4⟩ := hbd
  simp only at b1 b2 b3 b4
  clear hpos hex hlen
  go_enter Tryd.func18, Tryd.ntmps18
  go_wp2_with fail
  refine (CC.out w).mono ?_
  rintro e w' ⟨rfl, rfl⟩
  go_wp2_with fail
  refine (CL.out w').mono ?_
  rintro e w'' ⟨rfl, rfl⟩
  go_wp2_with fail
  go_ret2
  unfold Out2
  rw [HR.out]
  exact ⟨by first | rfl | (simp; done), rfl⟩

set_option maxHeartbeats 4000000 in
set_option maxRecDepth 100000 in
theorem rposition_any (w : World) (s : ByteArray) (n : Int) (hs : (s.size : Int) ≤ 1000000000) : Calls Tryd.prog 19 #[.string s, .int .i64 n] w (Out2 w (posF s.data.toList n)) := by
  have hlen : s.data.toList.length = s.size := by simp
  by_cases h0 : n < 0
  focus
    have HR : Hid (posF s.data.toList n = (0, 0)) := by unfold Hid posF; rw [if_pos (Or.inl h0)]
    have t1 : decide (n < 0) = true := by simpa using h0
    go_enter Tryd.func19, Tryd.ntmps19
    go_wp2_with fail
    go_ret2
    unfold Out2
    rw [HR.out]
    exact ⟨rfl, rfl⟩
  have t1 : decide (n < 0) = false := by simpa using h0
  by_cases h1 : (s.size : Int) < n
  focus
    have HR : Hid (posF s.data.toList n = (0, 0)) := by unfold Hid posF; rw [if_pos (Or.inr (by rw [hlen]; exact h1))]
    have t2 : decide ((s.size : Int) < n) = true := by simpa using h1
    go_enter Tryd.func19, Tryd.ntmps19
    go_wp2_with fail
    go_ret2
    unfold Out2
    rw [HR.out]
    exact ⟨rfl, rfl⟩
  have t2 : decide ((s.size : Int) < n) = false := by simpa using h1
  obtain ⟨m, rfl⟩ : ∃ m : Nat, n = m := ⟨n.toNat, by omega⟩
  have hm : m ≤ s.size := by omega
  have HR : Hid (posF s.data.toList (m : Int) = posL (s.data.toList.take m)) := by
    unfold Hid posF
    rw [if_neg (by rw [hlen]; omega), Int.toNat_natCast]
  go_enter Tryd.func19, Tryd.ntmps19
  go_wp2_with fail
  go_loop [6, 7, 8] (fun a b i => ∃ k : Nat, k ≤ m ∧ i = .int .i64 k ∧ a = .int .i64 (posL (s.data.toList.take k)).1 ∧ b = .int .i64 (posL (s.data.toList.take k)).2) (fun _ _ i => m - (intOf i).toNat)
  case atStart => exact ⟨0, Nat.zero_le _, rfl, rfl, rfl⟩
  case round =>
    obtain ⟨k, hk, rfl, rfl, rfl⟩ := hrel
    by_cases hkm : k < m
    rotate_left
    focus
      obtain rfl : k = m := by omega
      go_wp2_with fail
      go_ret2
      unfold Out2
      rw [HR.out]
      exact ⟨rfl, rfl⟩
    have hks : k < s.size := by omega
    have hksI : (k : Int) < (s.size : Int) := by omega
    have hl : k < s.data.toList.length := by omega
    have hbd := posL_bd (s.data.toList.take k)
    have hlt : (s.data.toList.take k).length ≤ k := List.length_take_le _ _
    have hst : posL (s.data.toList.take (k + 1)) = posStep (posL (s.data.toList.take k)) s[k] := by
      rw [List.take_succ_eq_append_getElem hl, posL_snoc]
      rfl
    have HST := Lib.hid hst
    generalize hp : posL (s.data.toList.take k) = p at *
    have HP := Lib.hid hp
    obtain ⟨a, b⟩ := p
    simp only at hbd
    obtain ⟨b1, b2, b3, b4⟩ := hbd
    clear hst hp
    by_cases hc : bInt s[k] = 10
    focus
      have HN : Hid (posL (s.data.toList.take (k + 1)) = (a + 1, 1)) := by
        unfold Hid
        rw [HST.out]
        unfold posStep
        rw [if_pos (by simpa using hc)]
      have t3 : ((s[k].toNat : Int) == 10) = true := by simpa [bInt] using hc
      clear hc HST
      go_wp2_with fail
      go_round
      case rel => exact ⟨k + 1, by omega, by go_num, by rw [HN.out], by rw [HN.out]⟩
      case measure => simp [intOf]; omega
    focus
      have HN : Hid (posL (s.data.toList.take (k + 1)) = (a, b + 1)) := by
        unfold Hid
        rw [HST.out]
        unfold posStep
        rw [if_neg (by simpa using hc)]
      have t3 : ((s[k].toNat : Int) == 10) = false := by rw [beq_eq_false_iff_ne]; exact hc
      clear hc HST
      go_wp2_with fail
      go_round
      case rel => exact ⟨k + 1, by omega, by go_num, by rw [HN.out], by rw [HN.out]⟩
      case measure => simp [intOf]; omega
end Go.Proofs.YtmpdnmnimdkfnaaDoor
