/- Plain: the document's text of lines is what lex.Join makes. -/
import Derived.Test.YtcildbgckgodhaaXx2
import Derived.Test.YtcildbgckgodhaaJoin
import Derived.Test.YtcildbgckgodhaaLexF
import Derived.Test.YtcildbgckgodhaaAid
namespace Go.Proofs.Ytcildbgckgodhaa
open Go.RowKit Go.Proofs.Ytcildbgckgodhaa.X Go.Proofs.YtcildbgckgodhaaW.PrintWords Go.Proofs.YtcildbgckgodhaaW.PrintLast
set_option linter.unusedVariables false
theorem any_cons (b : UInt8) (l c : List UInt8) : Lib.containsAny (b :: l) c = (c.contains b || Lib.containsAny l c) := by
  unfold Lib.containsAny
  rw [Lib.indexAny]
  have h := Lib.indexAny_ge c l
  cases c.contains b with
  | true => simp
  | false =>
    simp only [Bool.false_eq_true, if_false, Bool.false_or]
    by_cases e : Lib.indexAny l c = -1
    · rw [e]; rfl
    · rw [if_neg (by simpa using e)]
      exact decide_eq_decide.2 (by omega)
theorem in_set (b : UInt8) : setB.data.toList.contains b = true ↔ (b = 32 ∨ b = 9 ∨ b = 13 ∨ b = 10 ∨ b = 35) := by
  have e : setB.data.toList = [32, 9, 13, 10, 35] := rfl
  rw [e]; simp
theorem refMay_l0 (x : ByteArray) (hx : x.size ≤ 100000) : ∀ (d i : Nat), x.size - i = d → i ≤ x.size → Ev (fun k => fescueref05_May.l0 k x (i : Int)) (!(Lib.containsAny (x.data.toList.drop i) setB.data.toList) && (x.toList != [])) := by
  intro d
  induction d with
  | zero =>
    intro i hd hi
    have hn : x.data.toList.drop i = [] := List.drop_eq_nil_of_le (by simp; omega)
    refine Ev.step (f := fun _ => some (x.toList != [])) (fun k => ?_) (Ev.congr (f := fun _ => some _) (fun k => ?_) (Ev.now _))
    · simp only [fescueref05_May.l0]; rw [if_neg (by omega)]
    · rw [hn]; rfl
  | succ d ih =>
    intro i hd hi
    have hlt : i < x.size := by omega
    have hw : wrap64 ((i : Int) + 1) = ((i + 1 : Nat) : Int) := by unfold wrap64; omega
    have hb := bt_get' x i hlt
    have hdc := drop_cons x i hlt
    rw [hdc, any_cons]
    obtain ⟨c, hc⟩ : ∃ c, c = x[i] := ⟨_, rfl⟩
    rw [← hc] at hb ⊢
    by_cases hin : setB.data.toList.contains c = true
    · rw [hin]
      refine Ev.step (f := fun _ => some false) (fun k => ?_) (Ev.now _)
      simp only [fescueref05_May.l0]
      rw [if_pos (by omega), if_pos (by omega), hb]
      rcases (in_set c).1 hin with rfl | rfl | rfl | rfl | rfl <;> rfl
    · have hno := fun h => hin ((in_set c).2 h)
      have hin' : setB.data.toList.contains c = false := by simpa using hin
      rw [hin', Bool.false_or]
      refine Ev.step (f := fun k => fescueref05_May.l0 k x ((i + 1 : Nat) : Int)) (fun k => ?_) (ih (i + 1) (by omega) (by omega))
      have ne : ∀ n : UInt8, c ≠ n → ¬ (c.toNat : Int) = (n.toNat : Int) := fun n h e => h (UInt8.toNat_inj.1 (by omega))
      have n1 : ¬ (c.toNat : Int) = 32 := ne 32 (fun h => hno (.inl h))
      have n2 : ¬ (c.toNat : Int) = 9 := ne 9 (fun h => hno (.inr (.inl h)))
      have n3 : ¬ (c.toNat : Int) = 13 := ne 13 (fun h => hno (.inr (.inr (.inl h))))
      have n4 : ¬ (c.toNat : Int) = 10 := ne 10 (fun h => hno (.inr (.inr (.inr (.inl h)))))
      have n5 : ¬ (c.toNat : Int) = 35 := ne 35 (fun h => hno (.inr (.inr (.inr (.inr h)))))
      simp only [fescueref05_May.l0]
      rw [if_pos (by omega), if_pos (by omega), hb, if_neg n1, if_neg n2, if_neg n3, if_neg n4, if_neg n5, hw]
theorem refMay (x : ByteArray) (hx : x.size ≤ 100000) : Ev (fun k => fescueref05_May.f k x) (okWord x) := by
  have h := refMay_l0 x hx x.size 0 rfl (Nat.zero_le _)
  rw [List.drop_zero] at h
  have e : (!(Lib.containsAny x.data.toList setB.data.toList) && (x.toList != [])) = okWord x := by
    unfold okWord badW
    cases x.toList with
    | nil => simp
    | cons a t => simp
  rw [e] at h
  exact h
theorem refMayAll_l1 (l : List (List ByteArray)) (i : Nat) (hi : i < l.length) (hl : l.length ≤ 100000) (hw : l[i].length ≤ 100000) (hx : ∀ x ∈ l[i], x.size ≤ 100000) (R : Bool) (hR : Ev (fun k => fescueref05_mayAll.l0 k l ((i + 1 : Nat) : Int)) R) :
    ∀ (d j : Nat), l[i].length - j = d → j ≤ l[i].length → Ev (fun k => fescueref05_mayAll.l1 k l (i : Int) (j : Int)) ((!l[i].isEmpty && (l[i].drop j).all okWord) && R) := by
  have hrd : rd_L1 l (i : Int) = l[i] := by unfold rd_L1; simp [hi]
  have hw1 : wrap64 ((i : Int) + 1) = ((i + 1 : Nat) : Int) := by unfold wrap64; omega
  intro d
  induction d with
  | zero =>
    intro j hd hj
    have hn : l[i].drop j = [] := List.drop_eq_nil_of_le (by omega)
    rw [hn, List.all_nil, Bool.and_true]
    by_cases h0 : l[i].length = 0
    · have e : l[i].isEmpty = true := by simpa using List.eq_nil_of_length_eq_zero h0
      rw [e]
      refine Ev.step (f := fun _ => some false) (fun k => ?_) (Ev.now _)
      simp only [fescueref05_mayAll.l1]
      rw [if_pos (by omega), if_pos (by omega), hrd, if_neg (by omega), if_pos (by omega)]
    · have e : l[i].isEmpty = false := by
        cases hq : l[i] with
        | nil => rw [hq] at h0; simp at h0
        | cons => rfl
      rw [e, Bool.not_false, Bool.true_and]
      refine Ev.step (f := fun k => fescueref05_mayAll.l0 k l ((i + 1 : Nat) : Int)) (fun k => ?_) hR
      simp only [fescueref05_mayAll.l1]
      rw [if_pos (by omega), if_pos (by omega), hrd, if_neg (by omega), if_neg (by omega), hw1]
  | succ d ih =>
    intro j hd hj
    have hlt : j < l[i].length := by omega
    have hw2 : wrap64 ((j : Int) + 1) = ((j + 1 : Nat) : Int) := by unfold wrap64; omega
    have hrd2 : rdOf ByteArray.empty l[i] (j : Int) = l[i][j] := by unfold rdOf; simp [hlt]
    have hm := refMay l[i][j] (hx _ (List.getElem_mem hlt))
    rw [all_drop okWord l[i] j hlt]
    refine Ev.step (f := fun k => (fescueref05_May.f k l[i][j]).bind fun t => if t = true then fescueref05_mayAll.l1 k l (i : Int) ((j + 1 : Nat) : Int) else some false) (fun k => ?_) ?_
    · simp only [fescueref05_mayAll.l1]
      rw [if_pos (by omega), if_pos (by omega), hrd, if_pos (by omega), if_pos (by omega), hrd2, hw2]
    · refine Ev.bind hm ?_
      cases hok : okWord l[i][j] with
      | true =>
        refine Ev.congr (fun k => by rw [if_pos rfl]) ?_
        rw [Bool.true_and]
        exact ih (j + 1) (by omega) (by omega)
      | false =>
        refine Ev.congr (f := fun _ => some false) (fun k => by rw [if_neg (by simp)]) (Ev.congr (f := fun _ => some _) (fun k => ?_) (Ev.now _))
        simp
theorem refMayAll (l : List (List ByteArray)) (hl : l.length ≤ 100000) (hw : ∀ ws ∈ l, ws.length ≤ 100000) (hx : ∀ ws ∈ l, ∀ x ∈ ws, x.size ≤ 100000) : Ev (fun k => fescueref05_mayAll.f k l) (l.all okRow) := by
  have main : ∀ (d i : Nat), l.length - i = d → i ≤ l.length → Ev (fun k => fescueref05_mayAll.l0 k l (i : Int)) ((l.drop i).all okRow) := by
    intro d
    induction d with
    | zero =>
      intro i hd hi
      rw [List.drop_eq_nil_of_le (by omega)]
      refine Ev.step (f := fun _ => some true) (fun k => ?_) (Ev.now _)
      simp only [fescueref05_mayAll.l0]
      rw [if_neg (by omega)]
    | succ d ih =>
      intro i hd hi
      have hlt : i < l.length := by omega
      have h1 := refMayAll_l1 l i hlt hl (hw _ (List.getElem_mem hlt)) (hx _ (List.getElem_mem hlt)) _ (ih (i + 1) (by omega) (by omega)) _ 0 rfl (Nat.zero_le _)
      rw [all_drop okRow l i hlt]
      refine Ev.step (f := fun k => fescueref05_mayAll.l1 k l (i : Int) ((0 : Nat) : Int)) (fun k => ?_) (by rw [List.drop_zero] at h1; exact h1)
      simp only [fescueref05_mayAll.l0]
      rw [if_pos (by omega)]
      rfl
  exact main _ 0 rfl (Nat.zero_le _)
def nums (l : List UInt8) : List Int := l.map fun b => (b.toNat : Int)
theorem nums_app (a b : List UInt8) : nums (a ++ b) = nums a ++ nums b := by simp [nums]
theorem nums_len (a : List UInt8) : (nums a).length = a.length := by simp [nums]
theorem bytesOf_nums (x : ByteArray) : bytesOf x = nums x.data.toList := rfl
theorem refLine (ws : List ByteArray) (hw : ws.length ≤ 100000) (hx : ∀ x ∈ ws, x.size ≤ 100000) : Ev (fun k => fescueref05_line.f k ws) (nums (lineTo ws ws.length ++ [10])) := by
  have main : ∀ (d j : Nat), ws.length - j = d → j ≤ ws.length → Ev (fun k => fescueref05_line.l0 k ws (nums (lineTo ws j)) (j : Int)) (nums (lineTo ws ws.length ++ [10])) := by
    intro d
    induction d with
    | zero =>
      intro j hd hj
      have he : j = ws.length := by omega
      subst he
      have hlen := lineTo_len ws hx ws.length (Nat.le_refl _)
      refine Ev.step (f := fun _ => some (nums (lineTo ws ws.length) ++ [10])) (fun k => ?_) (Ev.congr (f := fun _ => some _) (fun k => ?_) (Ev.now _))
      · simp only [fescueref05_line.l0]
        rw [if_neg (by omega), if_pos (by rw [nums_len]; omega)]
      · rw [nums_app]; rfl
    | succ d ih =>
      intro j hd hj
      have hlt : j < ws.length := by omega
      have hw2 : wrap64 ((j : Int) + 1) = ((j + 1 : Nat) : Int) := by unfold wrap64; omega
      have hrd2 : rdOf ByteArray.empty ws (j : Int) = ws[j] := by unfold rdOf; simp [hlt]
      have hgd : ws.getD j ByteArray.empty = ws[j] := by simp [hlt]
      have hlen := lineTo_len ws hx j (by omega)
      have hxs := hx _ (List.getElem_mem hlt)
      have hst : lineTo ws (j + 1) = lineTo ws j ++ (if 0 < j then [32] else []) ++ (ws[j]).data.toList := by rw [lineTo, hgd]
      refine Ev.step (f := fun k => fescueref05_line.l0 k ws (nums (lineTo ws (j + 1))) ((j + 1 : Nat) : Int)) (fun k => ?_) (ih (j + 1) (by omega) (by omega))
      simp only [fescueref05_line.l0]
      rw [if_pos (by omega), hrd2, hw2]
      by_cases h0 : 0 < j
      · rw [if_pos (by omega), if_pos (by rw [nums_len]; omega), Option.bind_some, if_pos (by omega), if_pos (by rw [List.length_append, nums_len, List.length_singleton]; omega), hst, if_pos h0, nums_app, nums_app]
        rfl
      · rw [if_neg (by omega), if_pos (by omega), if_pos (by rw [nums_len]; omega), hst, if_neg h0, List.append_nil, nums_app]
        rfl
  exact main _ 0 rfl (Nat.zero_le _)
def ansJ (o : Option (List UInt8)) : ByteArray × Int := match o with
  | some o => (⟨o.toArray⟩, 0)
  | none => (⟨#[]⟩, 4)
theorem refJoin (l : List (List ByteArray)) (hl : l.length ≤ 100000) (hw : ∀ ws ∈ l, ws.length ≤ 100000) (hx : ∀ ws ∈ l, ∀ x ∈ ws, x.size ≤ 100000) : Ev (fun k => fescueref05_Join.f k l) (joinP l) := by
  have main : ∀ (d i : Nat), l.length - i = d → i ≤ l.length → ∀ o : List UInt8, o.length ≤ 16384 → Ev (fun k => fescueref05_Join.l0 k l (nums o) (i : Int)) (ansJ (outL (l.drop i) o)) := by
    intro d
    induction d with
    | zero =>
      intro i hd hi o ho
      rw [List.drop_eq_nil_of_le (by omega)]
      refine Ev.step (f := fun _ => some (strOfNums (nums o), 0)) (fun k => ?_) (Ev.congr (f := fun _ => some _) (fun k => ?_) (Ev.now _))
      · simp only [fescueref05_Join.l0]
        rw [if_neg (by omega)]
      · rw [show strOfNums (nums o) = mkB o from strOf_mk o]; rfl
    | succ d ih =>
      intro i hd hi o ho
      have hlt : i < l.length := by omega
      have hw2 : wrap64 ((i : Int) + 1) = ((i + 1 : Nat) : Int) := by unfold wrap64; omega
      have hrd : rd_L1 l (i : Int) = l[i] := by unfold rd_L1; simp [hlt]
      have hm := List.getElem_mem hlt
      have hwl := hw _ hm
      have hlen := lineTo_len l[i] (hx _ hm) l[i].length (Nat.le_refl _)
      have hline := refLine l[i] hwl (hx _ hm)
      rw [List.drop_eq_getElem_cons hlt, outL]
      obtain ⟨o2, ho2⟩ : ∃ o2, o2 = o ++ lineTo l[i] l[i].length ++ [10] := ⟨_, rfl⟩
      have hn : nums o ++ nums (lineTo l[i] l[i].length ++ [10]) = nums o2 := by rw [ho2, ← nums_app, List.append_assoc]
      have ho2l : o2.length ≤ 16384 + 100000 * 100001 + 1 := by rw [ho2]; simp only [List.length_append, List.length_singleton]; omega
      rw [← ho2]
      refine Ev.step (f := fun k => (fescueref05_line.f k l[i]).bind fun t235 => (if (nums o).length + t235.length < 140737488355328 then ((some (nums o ++ t235 : List Int)).bind fun y238 => (if ((l[i]).length : Int) > 64 then (some ((⟨#[]⟩ : ByteArray), 4)) else (if (y238.length : Int) > 16384 then (some ((⟨#[]⟩ : ByteArray), 4)) else (fescueref05_Join.l0 k l y238 ((i + 1 : Nat) : Int))))) else (none))) (fun k => ?_) ?_
      · simp only [fescueref05_Join.l0]
        rw [if_pos (by omega), if_pos (by omega), hrd, hw2]
      · refine Ev.bind hline ?_
        have hfit : (nums o).length + (nums (lineTo l[i] l[i].length ++ [10])).length < 140737488355328 := by
          rw [nums_len, nums_len, List.length_append, List.length_singleton]; omega
        refine Ev.congr (f := fun k => (if ((l[i]).length : Int) > 64 then (some ((⟨#[]⟩ : ByteArray), 4)) else (if ((nums o2).length : Int) > 16384 then (some ((⟨#[]⟩ : ByteArray), 4)) else (fescueref05_Join.l0 k l (nums o2) ((i + 1 : Nat) : Int))))) (fun k => by rw [if_pos hfit, Option.bind_some, hn]) ?_
        by_cases h1 : 64 < l[i].length
        · rw [if_pos (.inl h1)]
          exact Ev.congr (f := fun _ => some ((⟨#[]⟩ : ByteArray), 4)) (fun k => by rw [if_pos (by omega)]) (Ev.now _)
        · by_cases h2 : 16384 < o2.length
          · rw [if_pos (.inr h2)]
            exact Ev.congr (f := fun _ => some ((⟨#[]⟩ : ByteArray), 4)) (fun k => by rw [if_neg (by omega), if_pos (by rw [nums_len]; omega)]) (Ev.now _)
          · rw [if_neg (by omega)]
            exact Ev.congr (fun k => by rw [if_neg (by omega), if_neg (by rw [nums_len]; omega)]) (ih (i + 1) (by omega) (by omega) o2 (by omega))
  refine Ev.bind (refMayAll l hl hw hx) ?_
  cases hk : l.all okRow with
  | false =>
    refine Ev.congr (f := fun _ => some ((⟨#[]⟩ : ByteArray), 2)) (fun k => by rw [if_neg (by simp)]) (Ev.congr (f := fun _ => some _) (fun k => ?_) (Ev.now _))
    unfold joinP; rw [hk]; rfl
  | true =>
    refine Ev.congr (fun k => by rw [if_pos rfl]) ?_
    have e : joinP l = ansJ (outL l []) := by
      unfold joinP
      rw [hk]
      cases outL l [] <;> rfl
    rw [e]
    exact main _ 0 rfl (Nat.zero_le _) [] (by simp)
end Go.Proofs.Ytcildbgckgodhaa
