-- Written by a program of this session.
import Derived.Test.YtfgfdjlimhlcjaaQConx0
import Derived.Test.YtfgfdjlimhlcjaaQConx1
import Derived.Test.YtfgfdjlimhlcjaaQConx2
import Derived.Test.YtfgfdjlimhlcjaaQConx3
namespace Go.Proofs.Ytfgfdjlimhlcjaa.QCon
open Go.RowKit Go.Proofs.YtfgfdjlimhlcjaaW.PrintWords Go.Proofs.YtfgfdjlimhlcjaaW.PrintLast Go.Proofs.YtfgfdjlimhlcjaaW.PrintMore
attribute [local go_sem] max2_int min2_int max_two min_two max_three min_three max_four min_four   -- for this text's walks alone
set_option linter.unusedVariables false
set_option linter.unusedSimpArgs false

/-! ### examboardlaw13_awake: function 14 -/
def examboardlaw13_awake.f (k : Nat)  : Option (Bool) := (some (([(⟨(⟨#[77, 65, 84, 72]⟩ : ByteArray), (⟨#[109]⟩ : ByteArray)⟩ : S42), (⟨(⟨#[77, 65, 84, 72, 46, 65, 76, 71]⟩ : ByteArray), (⟨#[97]⟩ : ByteArray)⟩ : S42), (⟨(⟨#[77, 65, 84, 72, 46, 71, 69, 79]⟩ : ByteArray), (⟨#[103]⟩ : ByteArray)⟩ : S42), (⟨(⟨#[82, 69, 65, 68]⟩ : ByteArray), (⟨#[114]⟩ : ByteArray)⟩ : S42)] : List (S42)) : List (S42))).bind fun y135 => ((content_Check.f k y135).bind fun bt138 => (if 1 ≤ 2 then (if 2 ≤ (y135.length : Int) then ((content_Check.f k ((y135.take 2).drop 1)).bind fun bt144 => (if bt138.1 = 0 then (if bt138.2 = 0 then (if bt144.1 = 6 then (if bt144.2 = 0 then ((content_Kids.f k y135 (⟨#[77, 65, 84, 72]⟩ : ByteArray)).bind fun t146 => ((examboardref13_SameStrings.f k t146 (([(⟨#[77, 65, 84, 72, 46, 65, 76, 71]⟩ : ByteArray), (⟨#[77, 65, 84, 72, 46, 71, 69, 79]⟩ : ByteArray)] : List ByteArray))).bind fun t152 => (if t152 = true then ((content_Kids.f k y135 (⟨#[]⟩ : ByteArray)).bind fun t153 => ((examboardref13_SameStrings.f k t153 (([(⟨#[77, 65, 84, 72]⟩ : ByteArray), (⟨#[82, 69, 65, 68]⟩ : ByteArray)] : List ByteArray))).bind fun t159 => (if t159 = true then ((some (([(⟨#[77, 65, 84, 72, 46, 65, 76, 71]⟩ : ByteArray), (⟨#[77, 65, 84, 72, 46, 65, 76, 71]⟩ : ByteArray)] : List ByteArray) : List ByteArray)).bind fun y160 => ((content_Unmet.f k y160 (([(⟨(⟨#[77, 65, 84, 72]⟩ : ByteArray), 1, 2⟩ : S51), (⟨(⟨#[77, 65, 84, 72, 46, 71, 69, 79]⟩ : ByteArray), 1, 1⟩ : S51), (⟨(⟨#[]⟩ : ByteArray), 0, 1⟩ : S51)] : List (S51)))).bind fun t166 => ((examboardref13_SameInts.f k t166 (([1, 2] : List Int))).bind fun t172 => (if t172 = true then ((content_Count.f k y160 (⟨#[77, 65, 84, 72]⟩ : ByteArray)).bind fun t173 => (if t173 = 2 then ((content_Parent.f k (⟨#[77, 65, 84, 72, 46, 65, 76, 71]⟩ : ByteArray)).bind fun bt174 => ((content_Parent.f k (⟨#[77, 65, 84, 72]⟩ : ByteArray)).bind fun bt176 => (if bt174.2 = true then (if bt176.2 = true then (none) else (if bt174.1.toList = ([77, 65, 84, 72] : List UInt8) then ((content_Under.f (⟨#[65, 46, 66]⟩ : ByteArray) (⟨#[65]⟩ : ByteArray)).bind fun t178 => (if t178 = true then ((content_Under.f (⟨#[65, 66]⟩ : ByteArray) (⟨#[65]⟩ : ByteArray)).bind fun t179 => (if t179 = true then (none) else ((Hand.content_Valid.f k (⟨#[65, 46, 66, 50]⟩ : ByteArray)).bind fun t180 => (if t180 = true then ((Hand.content_Valid.f k (⟨#[65, 46, 46, 66]⟩ : ByteArray)).bind fun t181 => (if t181 = true then (none) else ((Hand.content_Valid.f k (⟨#[97]⟩ : ByteArray)).bind fun t182 => (some (!t182))))) else (none))))) else (none))) else (none))) else (none)))) else (none))) else (none))))) else (none)))) else (none)))) else (none)) else (none)) else (none)) else (none))) else (none)) else (none)))
theorem examboardlaw13_awake.mono : ∀ k, LeO (examboardlaw13_awake.f k ) (examboardlaw13_awake.f (k + 1) ) := by
  intro  k
  unfold examboardlaw13_awake.f
  repeat' first
      | (with_reducible exact Hand.content_Valid.mono _ _)
      | (with_reducible exact content_Check.mono _ _)
      | (with_reducible exact content_Count.mono _ _ _)
      | (with_reducible exact content_Kids.mono _ _ _)
      | (with_reducible exact content_Parent.mono _ _)
      | (with_reducible exact content_Unmet.mono _ _ _)
      | (with_reducible exact examboardref13_SameInts.mono _ _ _)
      | (with_reducible exact examboardref13_SameStrings.mono _ _ _)
      | (with_reducible exact LeO.refl _)
      | (with_reducible exact LeO.none _)
      | (with_reducible refine LeO.ite ?_ ?_)
      | (with_reducible refine LeO.bind ?_ (fun _ => ?_))
      | exact Hand.content_Valid.mono _ _
      | exact content_Check.mono _ _
      | exact content_Count.mono _ _ _
      | exact content_Kids.mono _ _ _
      | exact content_Parent.mono _ _
      | exact content_Unmet.mono _ _ _
      | exact examboardref13_SameInts.mono _ _ _
      | exact examboardref13_SameStrings.mono _ _ _
      | exact LeO.none _
      | refine LeO.ite ?_ ?_
      | refine LeO.bind ?_ (fun _ => ?_)
set_option maxHeartbeats 8000000 in
set_option maxRecDepth 100000 in
theorem examboardlaw13_awake.calls (k : Nat)  (r : Bool) (w : World) (h : examboardlaw13_awake.f k  = some r) :
    Calls Try.prog 14 #[] w fun e w' => e = .returned (.bool r) ∧ Below w.heap.size w w' := by
  have hu42 := Try.underlying42
  have hu51 := Try.underlying51
  have HB := Aside0.mk (Below.refl w.heap.size w)
  have H : ((some (([(⟨(⟨#[77, 65, 84, 72]⟩ : ByteArray), (⟨#[109]⟩ : ByteArray)⟩ : S42), (⟨(⟨#[77, 65, 84, 72, 46, 65, 76, 71]⟩ : ByteArray), (⟨#[97]⟩ : ByteArray)⟩ : S42), (⟨(⟨#[77, 65, 84, 72, 46, 71, 69, 79]⟩ : ByteArray), (⟨#[103]⟩ : ByteArray)⟩ : S42), (⟨(⟨#[82, 69, 65, 68]⟩ : ByteArray), (⟨#[114]⟩ : ByteArray)⟩ : S42)] : List (S42)) : List (S42))).bind fun y135 => ((content_Check.f k y135).bind fun bt138 => (if 1 ≤ 2 then (if 2 ≤ (y135.length : Int) then ((content_Check.f k ((y135.take 2).drop 1)).bind fun bt144 => (if bt138.1 = 0 then (if bt138.2 = 0 then (if bt144.1 = 6 then (if bt144.2 = 0 then ((content_Kids.f k y135 (⟨#[77, 65, 84, 72]⟩ : ByteArray)).bind fun t146 => ((examboardref13_SameStrings.f k t146 (([(⟨#[77, 65, 84, 72, 46, 65, 76, 71]⟩ : ByteArray), (⟨#[77, 65, 84, 72, 46, 71, 69, 79]⟩ : ByteArray)] : List ByteArray))).bind fun t152 => (if t152 = true then ((content_Kids.f k y135 (⟨#[]⟩ : ByteArray)).bind fun t153 => ((examboardref13_SameStrings.f k t153 (([(⟨#[77, 65, 84, 72]⟩ : ByteArray), (⟨#[82, 69, 65, 68]⟩ : ByteArray)] : List ByteArray))).bind fun t159 => (if t159 = true then ((some (([(⟨#[77, 65, 84, 72, 46, 65, 76, 71]⟩ : ByteArray), (⟨#[77, 65, 84, 72, 46, 65, 76, 71]⟩ : ByteArray)] : List ByteArray) : List ByteArray)).bind fun y160 => ((content_Unmet.f k y160 (([(⟨(⟨#[77, 65, 84, 72]⟩ : ByteArray), 1, 2⟩ : S51), (⟨(⟨#[77, 65, 84, 72, 46, 71, 69, 79]⟩ : ByteArray), 1, 1⟩ : S51), (⟨(⟨#[]⟩ : ByteArray), 0, 1⟩ : S51)] : List (S51)))).bind fun t166 => ((examboardref13_SameInts.f k t166 (([1, 2] : List Int))).bind fun t172 => (if t172 = true then ((content_Count.f k y160 (⟨#[77, 65, 84, 72]⟩ : ByteArray)).bind fun t173 => (if t173 = 2 then ((content_Parent.f k (⟨#[77, 65, 84, 72, 46, 65, 76, 71]⟩ : ByteArray)).bind fun bt174 => ((content_Parent.f k (⟨#[77, 65, 84, 72]⟩ : ByteArray)).bind fun bt176 => (if bt174.2 = true then (if bt176.2 = true then (none) else (if bt174.1.toList = ([77, 65, 84, 72] : List UInt8) then ((content_Under.f (⟨#[65, 46, 66]⟩ : ByteArray) (⟨#[65]⟩ : ByteArray)).bind fun t178 => (if t178 = true then ((content_Under.f (⟨#[65, 66]⟩ : ByteArray) (⟨#[65]⟩ : ByteArray)).bind fun t179 => (if t179 = true then (none) else ((Hand.content_Valid.f k (⟨#[65, 46, 66, 50]⟩ : ByteArray)).bind fun t180 => (if t180 = true then ((Hand.content_Valid.f k (⟨#[65, 46, 46, 66]⟩ : ByteArray)).bind fun t181 => (if t181 = true then (none) else ((Hand.content_Valid.f k (⟨#[97]⟩ : ByteArray)).bind fun t182 => (some (!t182))))) else (none))))) else (none))) else (none))) else (none)))) else (none))) else (none))))) else (none)))) else (none)))) else (none)) else (none)) else (none)) else (none))) else (none)) else (none)))) = some r := h
  clear h
  obtain ⟨y135, hy135⟩ : ∃ y_ : List (S42), y_ = (([(⟨(⟨#[77, 65, 84, 72]⟩ : ByteArray), (⟨#[109]⟩ : ByteArray)⟩ : S42), (⟨(⟨#[77, 65, 84, 72, 46, 65, 76, 71]⟩ : ByteArray), (⟨#[97]⟩ : ByteArray)⟩ : S42), (⟨(⟨#[77, 65, 84, 72, 46, 71, 69, 79]⟩ : ByteArray), (⟨#[103]⟩ : ByteArray)⟩ : S42), (⟨(⟨#[82, 69, 65, 68]⟩ : ByteArray), (⟨#[114]⟩ : ByteArray)⟩ : S42)] : List (S42))) := ⟨_, rfl⟩
  replace H : ((content_Check.f k y135).bind fun bt138 => (if 1 ≤ 2 then (if 2 ≤ (y135.length : Int) then ((content_Check.f k ((y135.take 2).drop 1)).bind fun bt144 => (if bt138.1 = 0 then (if bt138.2 = 0 then (if bt144.1 = 6 then (if bt144.2 = 0 then ((content_Kids.f k y135 (⟨#[77, 65, 84, 72]⟩ : ByteArray)).bind fun t146 => ((examboardref13_SameStrings.f k t146 (([(⟨#[77, 65, 84, 72, 46, 65, 76, 71]⟩ : ByteArray), (⟨#[77, 65, 84, 72, 46, 71, 69, 79]⟩ : ByteArray)] : List ByteArray))).bind fun t152 => (if t152 = true then ((content_Kids.f k y135 (⟨#[]⟩ : ByteArray)).bind fun t153 => ((examboardref13_SameStrings.f k t153 (([(⟨#[77, 65, 84, 72]⟩ : ByteArray), (⟨#[82, 69, 65, 68]⟩ : ByteArray)] : List ByteArray))).bind fun t159 => (if t159 = true then ((some (([(⟨#[77, 65, 84, 72, 46, 65, 76, 71]⟩ : ByteArray), (⟨#[77, 65, 84, 72, 46, 65, 76, 71]⟩ : ByteArray)] : List ByteArray) : List ByteArray)).bind fun y160 => ((content_Unmet.f k y160 (([(⟨(⟨#[77, 65, 84, 72]⟩ : ByteArray), 1, 2⟩ : S51), (⟨(⟨#[77, 65, 84, 72, 46, 71, 69, 79]⟩ : ByteArray), 1, 1⟩ : S51), (⟨(⟨#[]⟩ : ByteArray), 0, 1⟩ : S51)] : List (S51)))).bind fun t166 => ((examboardref13_SameInts.f k t166 (([1, 2] : List Int))).bind fun t172 => (if t172 = true then ((content_Count.f k y160 (⟨#[77, 65, 84, 72]⟩ : ByteArray)).bind fun t173 => (if t173 = 2 then ((content_Parent.f k (⟨#[77, 65, 84, 72, 46, 65, 76, 71]⟩ : ByteArray)).bind fun bt174 => ((content_Parent.f k (⟨#[77, 65, 84, 72]⟩ : ByteArray)).bind fun bt176 => (if bt174.2 = true then (if bt176.2 = true then (none) else (if bt174.1.toList = ([77, 65, 84, 72] : List UInt8) then ((content_Under.f (⟨#[65, 46, 66]⟩ : ByteArray) (⟨#[65]⟩ : ByteArray)).bind fun t178 => (if t178 = true then ((content_Under.f (⟨#[65, 66]⟩ : ByteArray) (⟨#[65]⟩ : ByteArray)).bind fun t179 => (if t179 = true then (none) else ((Hand.content_Valid.f k (⟨#[65, 46, 66, 50]⟩ : ByteArray)).bind fun t180 => (if t180 = true then ((Hand.content_Valid.f k (⟨#[65, 46, 46, 66]⟩ : ByteArray)).bind fun t181 => (if t181 = true then (none) else ((Hand.content_Valid.f k (⟨#[97]⟩ : ByteArray)).bind fun t182 => (some (!t182))))) else (none))))) else (none))) else (none))) else (none)))) else (none))) else (none))))) else (none)))) else (none)))) else (none)) else (none)) else (none)) else (none))) else (none)) else (none))) = some r := by first | (rw [hy135]; with_reducible exact H) | (have H2_ := (Option.bind_some _ _).symm.trans H; rw [hy135]; with_reducible exact H2_) | (have H2_ := (Option.bind_some _ _).symm.trans H; with_reducible exact H2_) | with_reducible exact H | (rw [hy135]; exact H) | exact H
  have Ny135 := Aside0.mk hy135
  clear hy135
  replace H := Option.bind_eq_some_iff.mp H
  obtain ⟨⟨t138, t139⟩, A10, H⟩ := H
  replace H : (if 1 ≤ 2 then (if 2 ≤ (y135.length : Int) then ((content_Check.f k ((y135.take 2).drop 1)).bind fun bt144 => (if t138 = 0 then (if t139 = 0 then (if bt144.1 = 6 then (if bt144.2 = 0 then ((content_Kids.f k y135 (⟨#[77, 65, 84, 72]⟩ : ByteArray)).bind fun t146 => ((examboardref13_SameStrings.f k t146 (([(⟨#[77, 65, 84, 72, 46, 65, 76, 71]⟩ : ByteArray), (⟨#[77, 65, 84, 72, 46, 71, 69, 79]⟩ : ByteArray)] : List ByteArray))).bind fun t152 => (if t152 = true then ((content_Kids.f k y135 (⟨#[]⟩ : ByteArray)).bind fun t153 => ((examboardref13_SameStrings.f k t153 (([(⟨#[77, 65, 84, 72]⟩ : ByteArray), (⟨#[82, 69, 65, 68]⟩ : ByteArray)] : List ByteArray))).bind fun t159 => (if t159 = true then ((some (([(⟨#[77, 65, 84, 72, 46, 65, 76, 71]⟩ : ByteArray), (⟨#[77, 65, 84, 72, 46, 65, 76, 71]⟩ : ByteArray)] : List ByteArray) : List ByteArray)).bind fun y160 => ((content_Unmet.f k y160 (([(⟨(⟨#[77, 65, 84, 72]⟩ : ByteArray), 1, 2⟩ : S51), (⟨(⟨#[77, 65, 84, 72, 46, 71, 69, 79]⟩ : ByteArray), 1, 1⟩ : S51), (⟨(⟨#[]⟩ : ByteArray), 0, 1⟩ : S51)] : List (S51)))).bind fun t166 => ((examboardref13_SameInts.f k t166 (([1, 2] : List Int))).bind fun t172 => (if t172 = true then ((content_Count.f k y160 (⟨#[77, 65, 84, 72]⟩ : ByteArray)).bind fun t173 => (if t173 = 2 then ((content_Parent.f k (⟨#[77, 65, 84, 72, 46, 65, 76, 71]⟩ : ByteArray)).bind fun bt174 => ((content_Parent.f k (⟨#[77, 65, 84, 72]⟩ : ByteArray)).bind fun bt176 => (if bt174.2 = true then (if bt176.2 = true then (none) else (if bt174.1.toList = ([77, 65, 84, 72] : List UInt8) then ((content_Under.f (⟨#[65, 46, 66]⟩ : ByteArray) (⟨#[65]⟩ : ByteArray)).bind fun t178 => (if t178 = true then ((content_Under.f (⟨#[65, 66]⟩ : ByteArray) (⟨#[65]⟩ : ByteArray)).bind fun t179 => (if t179 = true then (none) else ((Hand.content_Valid.f k (⟨#[65, 46, 66, 50]⟩ : ByteArray)).bind fun t180 => (if t180 = true then ((Hand.content_Valid.f k (⟨#[65, 46, 46, 66]⟩ : ByteArray)).bind fun t181 => (if t181 = true then (none) else ((Hand.content_Valid.f k (⟨#[97]⟩ : ByteArray)).bind fun t182 => (some (!t182))))) else (none))))) else (none))) else (none))) else (none)))) else (none))) else (none))))) else (none)))) else (none)))) else (none)) else (none)) else (none)) else (none))) else (none)) else (none)) = some r := H
  have A1 := Aside0.mk A10
  clear A10
  by_cases c2 : 1 ≤ 2
  · rw [if_pos c2] at H
    have c2b0 := eq_true c2
    have c2b1 : decide (1 ≤ 2) = true := decide_eq_true c2
    clear c2
    by_cases c3 : 2 ≤ (y135.length : Int)
    · rw [if_pos c3] at H
      have c3b0 := eq_true c3
      have c3b1 : decide (2 ≤ (y135.length : Int)) = true := decide_eq_true c3
      clear c3
      obtain ⟨y140, hy140⟩ : ∃ y_ : List (S42), y_ = ((y135.take 2).drop 1) := ⟨_, rfl⟩
      replace H : ((content_Check.f k y140).bind fun bt144 => (if t138 = 0 then (if t139 = 0 then (if bt144.1 = 6 then (if bt144.2 = 0 then ((content_Kids.f k y135 (⟨#[77, 65, 84, 72]⟩ : ByteArray)).bind fun t146 => ((examboardref13_SameStrings.f k t146 (([(⟨#[77, 65, 84, 72, 46, 65, 76, 71]⟩ : ByteArray), (⟨#[77, 65, 84, 72, 46, 71, 69, 79]⟩ : ByteArray)] : List ByteArray))).bind fun t152 => (if t152 = true then ((content_Kids.f k y135 (⟨#[]⟩ : ByteArray)).bind fun t153 => ((examboardref13_SameStrings.f k t153 (([(⟨#[77, 65, 84, 72]⟩ : ByteArray), (⟨#[82, 69, 65, 68]⟩ : ByteArray)] : List ByteArray))).bind fun t159 => (if t159 = true then ((some (([(⟨#[77, 65, 84, 72, 46, 65, 76, 71]⟩ : ByteArray), (⟨#[77, 65, 84, 72, 46, 65, 76, 71]⟩ : ByteArray)] : List ByteArray) : List ByteArray)).bind fun y160 => ((content_Unmet.f k y160 (([(⟨(⟨#[77, 65, 84, 72]⟩ : ByteArray), 1, 2⟩ : S51), (⟨(⟨#[77, 65, 84, 72, 46, 71, 69, 79]⟩ : ByteArray), 1, 1⟩ : S51), (⟨(⟨#[]⟩ : ByteArray), 0, 1⟩ : S51)] : List (S51)))).bind fun t166 => ((examboardref13_SameInts.f k t166 (([1, 2] : List Int))).bind fun t172 => (if t172 = true then ((content_Count.f k y160 (⟨#[77, 65, 84, 72]⟩ : ByteArray)).bind fun t173 => (if t173 = 2 then ((content_Parent.f k (⟨#[77, 65, 84, 72, 46, 65, 76, 71]⟩ : ByteArray)).bind fun bt174 => ((content_Parent.f k (⟨#[77, 65, 84, 72]⟩ : ByteArray)).bind fun bt176 => (if bt174.2 = true then (if bt176.2 = true then (none) else (if bt174.1.toList = ([77, 65, 84, 72] : List UInt8) then ((content_Under.f (⟨#[65, 46, 66]⟩ : ByteArray) (⟨#[65]⟩ : ByteArray)).bind fun t178 => (if t178 = true then ((content_Under.f (⟨#[65, 66]⟩ : ByteArray) (⟨#[65]⟩ : ByteArray)).bind fun t179 => (if t179 = true then (none) else ((Hand.content_Valid.f k (⟨#[65, 46, 66, 50]⟩ : ByteArray)).bind fun t180 => (if t180 = true then ((Hand.content_Valid.f k (⟨#[65, 46, 46, 66]⟩ : ByteArray)).bind fun t181 => (if t181 = true then (none) else ((Hand.content_Valid.f k (⟨#[97]⟩ : ByteArray)).bind fun t182 => (some (!t182))))) else (none))))) else (none))) else (none))) else (none)))) else (none))) else (none))))) else (none)))) else (none)))) else (none)) else (none)) else (none)) else (none))) = some r := by first | (rw [hy140]; with_reducible exact H) | (have H2_ := (Option.bind_some _ _).symm.trans H; rw [hy140]; with_reducible exact H2_) | (have H2_ := (Option.bind_some _ _).symm.trans H; with_reducible exact H2_) | with_reducible exact H | (rw [hy140]; exact H) | exact H
      have Ny140 := Aside0.mk hy140
      clear hy140
      replace H := Option.bind_eq_some_iff.mp H
      obtain ⟨⟨t144, t145⟩, A40, H⟩ := H
      replace H : (if t138 = 0 then (if t139 = 0 then (if t144 = 6 then (if t145 = 0 then ((content_Kids.f k y135 (⟨#[77, 65, 84, 72]⟩ : ByteArray)).bind fun t146 => ((examboardref13_SameStrings.f k t146 (([(⟨#[77, 65, 84, 72, 46, 65, 76, 71]⟩ : ByteArray), (⟨#[77, 65, 84, 72, 46, 71, 69, 79]⟩ : ByteArray)] : List ByteArray))).bind fun t152 => (if t152 = true then ((content_Kids.f k y135 (⟨#[]⟩ : ByteArray)).bind fun t153 => ((examboardref13_SameStrings.f k t153 (([(⟨#[77, 65, 84, 72]⟩ : ByteArray), (⟨#[82, 69, 65, 68]⟩ : ByteArray)] : List ByteArray))).bind fun t159 => (if t159 = true then ((some (([(⟨#[77, 65, 84, 72, 46, 65, 76, 71]⟩ : ByteArray), (⟨#[77, 65, 84, 72, 46, 65, 76, 71]⟩ : ByteArray)] : List ByteArray) : List ByteArray)).bind fun y160 => ((content_Unmet.f k y160 (([(⟨(⟨#[77, 65, 84, 72]⟩ : ByteArray), 1, 2⟩ : S51), (⟨(⟨#[77, 65, 84, 72, 46, 71, 69, 79]⟩ : ByteArray), 1, 1⟩ : S51), (⟨(⟨#[]⟩ : ByteArray), 0, 1⟩ : S51)] : List (S51)))).bind fun t166 => ((examboardref13_SameInts.f k t166 (([1, 2] : List Int))).bind fun t172 => (if t172 = true then ((content_Count.f k y160 (⟨#[77, 65, 84, 72]⟩ : ByteArray)).bind fun t173 => (if t173 = 2 then ((content_Parent.f k (⟨#[77, 65, 84, 72, 46, 65, 76, 71]⟩ : ByteArray)).bind fun bt174 => ((content_Parent.f k (⟨#[77, 65, 84, 72]⟩ : ByteArray)).bind fun bt176 => (if bt174.2 = true then (if bt176.2 = true then (none) else (if bt174.1.toList = ([77, 65, 84, 72] : List UInt8) then ((content_Under.f (⟨#[65, 46, 66]⟩ : ByteArray) (⟨#[65]⟩ : ByteArray)).bind fun t178 => (if t178 = true then ((content_Under.f (⟨#[65, 66]⟩ : ByteArray) (⟨#[65]⟩ : ByteArray)).bind fun t179 => (if t179 = true then (none) else ((Hand.content_Valid.f k (⟨#[65, 46, 66, 50]⟩ : ByteArray)).bind fun t180 => (if t180 = true then ((Hand.content_Valid.f k (⟨#[65, 46, 46, 66]⟩ : ByteArray)).bind fun t181 => (if t181 = true then (none) else ((Hand.content_Valid.f k (⟨#[97]⟩ : ByteArray)).bind fun t182 => (some (!t182))))) else (none))))) else (none))) else (none))) else (none)))) else (none))) else (none))))) else (none)))) else (none)))) else (none)) else (none)) else (none)) else (none)) = some r := H
      have A4 := Aside0.mk A40
      clear A40
      by_cases c5 : t138 = 0
      · rw [if_pos c5] at H
        have c5b0 : (t138 == 0) = true := beq_iff_eq.mpr c5
        have c5b1 : (t138 != 0) = false := bne_eq_false_iff_eq.mpr c5
        clear c5
        by_cases c6 : t139 = 0
        · rw [if_pos c6] at H
          have c6b0 : (t139 == 0) = true := beq_iff_eq.mpr c6
          have c6b1 : (t139 != 0) = false := bne_eq_false_iff_eq.mpr c6
          clear c6
          by_cases c7 : t144 = 6
          · rw [if_pos c7] at H
            have c7b0 : (t144 == 6) = true := beq_iff_eq.mpr c7
            have c7b1 : (t144 != 6) = false := bne_eq_false_iff_eq.mpr c7
            clear c7
            by_cases c8 : t145 = 0
            · rw [if_pos c8] at H
              have c8b0 : (t145 == 0) = true := beq_iff_eq.mpr c8
              have c8b1 : (t145 != 0) = false := bne_eq_false_iff_eq.mpr c8
              clear c8
              replace H := Option.bind_eq_some_iff.mp H
              obtain ⟨t146, A90, H⟩ := H
              replace H : ((examboardref13_SameStrings.f k t146 (([(⟨#[77, 65, 84, 72, 46, 65, 76, 71]⟩ : ByteArray), (⟨#[77, 65, 84, 72, 46, 71, 69, 79]⟩ : ByteArray)] : List ByteArray))).bind fun t152 => (if t152 = true then ((content_Kids.f k y135 (⟨#[]⟩ : ByteArray)).bind fun t153 => ((examboardref13_SameStrings.f k t153 (([(⟨#[77, 65, 84, 72]⟩ : ByteArray), (⟨#[82, 69, 65, 68]⟩ : ByteArray)] : List ByteArray))).bind fun t159 => (if t159 = true then ((some (([(⟨#[77, 65, 84, 72, 46, 65, 76, 71]⟩ : ByteArray), (⟨#[77, 65, 84, 72, 46, 65, 76, 71]⟩ : ByteArray)] : List ByteArray) : List ByteArray)).bind fun y160 => ((content_Unmet.f k y160 (([(⟨(⟨#[77, 65, 84, 72]⟩ : ByteArray), 1, 2⟩ : S51), (⟨(⟨#[77, 65, 84, 72, 46, 71, 69, 79]⟩ : ByteArray), 1, 1⟩ : S51), (⟨(⟨#[]⟩ : ByteArray), 0, 1⟩ : S51)] : List (S51)))).bind fun t166 => ((examboardref13_SameInts.f k t166 (([1, 2] : List Int))).bind fun t172 => (if t172 = true then ((content_Count.f k y160 (⟨#[77, 65, 84, 72]⟩ : ByteArray)).bind fun t173 => (if t173 = 2 then ((content_Parent.f k (⟨#[77, 65, 84, 72, 46, 65, 76, 71]⟩ : ByteArray)).bind fun bt174 => ((content_Parent.f k (⟨#[77, 65, 84, 72]⟩ : ByteArray)).bind fun bt176 => (if bt174.2 = true then (if bt176.2 = true then (none) else (if bt174.1.toList = ([77, 65, 84, 72] : List UInt8) then ((content_Under.f (⟨#[65, 46, 66]⟩ : ByteArray) (⟨#[65]⟩ : ByteArray)).bind fun t178 => (if t178 = true then ((content_Under.f (⟨#[65, 66]⟩ : ByteArray) (⟨#[65]⟩ : ByteArray)).bind fun t179 => (if t179 = true then (none) else ((Hand.content_Valid.f k (⟨#[65, 46, 66, 50]⟩ : ByteArray)).bind fun t180 => (if t180 = true then ((Hand.content_Valid.f k (⟨#[65, 46, 46, 66]⟩ : ByteArray)).bind fun t181 => (if t181 = true then (none) else ((Hand.content_Valid.f k (⟨#[97]⟩ : ByteArray)).bind fun t182 => (some (!t182))))) else (none))))) else (none))) else (none))) else (none)))) else (none))) else (none))))) else (none)))) else (none))) = some r := H
              have A9 := Aside0.mk A90
              clear A90
              obtain ⟨y149, hy149⟩ : ∃ y_ : List ByteArray, y_ = (([(⟨#[77, 65, 84, 72, 46, 65, 76, 71]⟩ : ByteArray), (⟨#[77, 65, 84, 72, 46, 71, 69, 79]⟩ : ByteArray)] : List ByteArray)) := ⟨_, rfl⟩
              replace H : ((examboardref13_SameStrings.f k t146 y149).bind fun t152 => (if t152 = true then ((content_Kids.f k y135 (⟨#[]⟩ : ByteArray)).bind fun t153 => ((examboardref13_SameStrings.f k t153 (([(⟨#[77, 65, 84, 72]⟩ : ByteArray), (⟨#[82, 69, 65, 68]⟩ : ByteArray)] : List ByteArray))).bind fun t159 => (if t159 = true then ((some (([(⟨#[77, 65, 84, 72, 46, 65, 76, 71]⟩ : ByteArray), (⟨#[77, 65, 84, 72, 46, 65, 76, 71]⟩ : ByteArray)] : List ByteArray) : List ByteArray)).bind fun y160 => ((content_Unmet.f k y160 (([(⟨(⟨#[77, 65, 84, 72]⟩ : ByteArray), 1, 2⟩ : S51), (⟨(⟨#[77, 65, 84, 72, 46, 71, 69, 79]⟩ : ByteArray), 1, 1⟩ : S51), (⟨(⟨#[]⟩ : ByteArray), 0, 1⟩ : S51)] : List (S51)))).bind fun t166 => ((examboardref13_SameInts.f k t166 (([1, 2] : List Int))).bind fun t172 => (if t172 = true then ((content_Count.f k y160 (⟨#[77, 65, 84, 72]⟩ : ByteArray)).bind fun t173 => (if t173 = 2 then ((content_Parent.f k (⟨#[77, 65, 84, 72, 46, 65, 76, 71]⟩ : ByteArray)).bind fun bt174 => ((content_Parent.f k (⟨#[77, 65, 84, 72]⟩ : ByteArray)).bind fun bt176 => (if bt174.2 = true then (if bt176.2 = true then (none) else (if bt174.1.toList = ([77, 65, 84, 72] : List UInt8) then ((content_Under.f (⟨#[65, 46, 66]⟩ : ByteArray) (⟨#[65]⟩ : ByteArray)).bind fun t178 => (if t178 = true then ((content_Under.f (⟨#[65, 66]⟩ : ByteArray) (⟨#[65]⟩ : ByteArray)).bind fun t179 => (if t179 = true then (none) else ((Hand.content_Valid.f k (⟨#[65, 46, 66, 50]⟩ : ByteArray)).bind fun t180 => (if t180 = true then ((Hand.content_Valid.f k (⟨#[65, 46, 46, 66]⟩ : ByteArray)).bind fun t181 => (if t181 = true then (none) else ((Hand.content_Valid.f k (⟨#[97]⟩ : ByteArray)).bind fun t182 => (some (!t182))))) else (none))))) else (none))) else (none))) else (none)))) else (none))) else (none))))) else (none)))) else (none))) = some r := by first | (rw [hy149]; with_reducible exact H) | (have H2_ := (Option.bind_some _ _).symm.trans H; rw [hy149]; with_reducible exact H2_) | (have H2_ := (Option.bind_some _ _).symm.trans H; with_reducible exact H2_) | with_reducible exact H | (rw [hy149]; exact H) | exact H
              have Ny149 := Aside0.mk hy149
              clear hy149
              replace H := Option.bind_eq_some_iff.mp H
              obtain ⟨t152, A100, H⟩ := H
              replace H : (if t152 = true then ((content_Kids.f k y135 (⟨#[]⟩ : ByteArray)).bind fun t153 => ((examboardref13_SameStrings.f k t153 (([(⟨#[77, 65, 84, 72]⟩ : ByteArray), (⟨#[82, 69, 65, 68]⟩ : ByteArray)] : List ByteArray))).bind fun t159 => (if t159 = true then ((some (([(⟨#[77, 65, 84, 72, 46, 65, 76, 71]⟩ : ByteArray), (⟨#[77, 65, 84, 72, 46, 65, 76, 71]⟩ : ByteArray)] : List ByteArray) : List ByteArray)).bind fun y160 => ((content_Unmet.f k y160 (([(⟨(⟨#[77, 65, 84, 72]⟩ : ByteArray), 1, 2⟩ : S51), (⟨(⟨#[77, 65, 84, 72, 46, 71, 69, 79]⟩ : ByteArray), 1, 1⟩ : S51), (⟨(⟨#[]⟩ : ByteArray), 0, 1⟩ : S51)] : List (S51)))).bind fun t166 => ((examboardref13_SameInts.f k t166 (([1, 2] : List Int))).bind fun t172 => (if t172 = true then ((content_Count.f k y160 (⟨#[77, 65, 84, 72]⟩ : ByteArray)).bind fun t173 => (if t173 = 2 then ((content_Parent.f k (⟨#[77, 65, 84, 72, 46, 65, 76, 71]⟩ : ByteArray)).bind fun bt174 => ((content_Parent.f k (⟨#[77, 65, 84, 72]⟩ : ByteArray)).bind fun bt176 => (if bt174.2 = true then (if bt176.2 = true then (none) else (if bt174.1.toList = ([77, 65, 84, 72] : List UInt8) then ((content_Under.f (⟨#[65, 46, 66]⟩ : ByteArray) (⟨#[65]⟩ : ByteArray)).bind fun t178 => (if t178 = true then ((content_Under.f (⟨#[65, 66]⟩ : ByteArray) (⟨#[65]⟩ : ByteArray)).bind fun t179 => (if t179 = true then (none) else ((Hand.content_Valid.f k (⟨#[65, 46, 66, 50]⟩ : ByteArray)).bind fun t180 => (if t180 = true then ((Hand.content_Valid.f k (⟨#[65, 46, 46, 66]⟩ : ByteArray)).bind fun t181 => (if t181 = true then (none) else ((Hand.content_Valid.f k (⟨#[97]⟩ : ByteArray)).bind fun t182 => (some (!t182))))) else (none))))) else (none))) else (none))) else (none)))) else (none))) else (none))))) else (none)))) else (none)) = some r := H
              have A10 := Aside0.mk A100
              clear A100
              by_cases c11 : t152 = true
              · subst c11
                have H1 : ((content_Kids.f k y135 (⟨#[]⟩ : ByteArray)).bind fun t153 => ((examboardref13_SameStrings.f k t153 (([(⟨#[77, 65, 84, 72]⟩ : ByteArray), (⟨#[82, 69, 65, 68]⟩ : ByteArray)] : List ByteArray))).bind fun t159 => (if t159 = true then ((some (([(⟨#[77, 65, 84, 72, 46, 65, 76, 71]⟩ : ByteArray), (⟨#[77, 65, 84, 72, 46, 65, 76, 71]⟩ : ByteArray)] : List ByteArray) : List ByteArray)).bind fun y160 => ((content_Unmet.f k y160 (([(⟨(⟨#[77, 65, 84, 72]⟩ : ByteArray), 1, 2⟩ : S51), (⟨(⟨#[77, 65, 84, 72, 46, 71, 69, 79]⟩ : ByteArray), 1, 1⟩ : S51), (⟨(⟨#[]⟩ : ByteArray), 0, 1⟩ : S51)] : List (S51)))).bind fun t166 => ((examboardref13_SameInts.f k t166 (([1, 2] : List Int))).bind fun t172 => (if t172 = true then ((content_Count.f k y160 (⟨#[77, 65, 84, 72]⟩ : ByteArray)).bind fun t173 => (if t173 = 2 then ((content_Parent.f k (⟨#[77, 65, 84, 72, 46, 65, 76, 71]⟩ : ByteArray)).bind fun bt174 => ((content_Parent.f k (⟨#[77, 65, 84, 72]⟩ : ByteArray)).bind fun bt176 => (if bt174.2 = true then (if bt176.2 = true then (none) else (if bt174.1.toList = ([77, 65, 84, 72] : List UInt8) then ((content_Under.f (⟨#[65, 46, 66]⟩ : ByteArray) (⟨#[65]⟩ : ByteArray)).bind fun t178 => (if t178 = true then ((content_Under.f (⟨#[65, 66]⟩ : ByteArray) (⟨#[65]⟩ : ByteArray)).bind fun t179 => (if t179 = true then (none) else ((Hand.content_Valid.f k (⟨#[65, 46, 66, 50]⟩ : ByteArray)).bind fun t180 => (if t180 = true then ((Hand.content_Valid.f k (⟨#[65, 46, 46, 66]⟩ : ByteArray)).bind fun t181 => (if t181 = true then (none) else ((Hand.content_Valid.f k (⟨#[97]⟩ : ByteArray)).bind fun t182 => (some (!t182))))) else (none))))) else (none))) else (none))) else (none)))) else (none))) else (none))))) else (none)))) = some r := by rw [if_pos rfl] at H; exact H
                clear H
                have H := H1
                clear H1
                replace H := Option.bind_eq_some_iff.mp H
                obtain ⟨t153, A120, H⟩ := H
                replace H : ((examboardref13_SameStrings.f k t153 (([(⟨#[77, 65, 84, 72]⟩ : ByteArray), (⟨#[82, 69, 65, 68]⟩ : ByteArray)] : List ByteArray))).bind fun t159 => (if t159 = true then ((some (([(⟨#[77, 65, 84, 72, 46, 65, 76, 71]⟩ : ByteArray), (⟨#[77, 65, 84, 72, 46, 65, 76, 71]⟩ : ByteArray)] : List ByteArray) : List ByteArray)).bind fun y160 => ((content_Unmet.f k y160 (([(⟨(⟨#[77, 65, 84, 72]⟩ : ByteArray), 1, 2⟩ : S51), (⟨(⟨#[77, 65, 84, 72, 46, 71, 69, 79]⟩ : ByteArray), 1, 1⟩ : S51), (⟨(⟨#[]⟩ : ByteArray), 0, 1⟩ : S51)] : List (S51)))).bind fun t166 => ((examboardref13_SameInts.f k t166 (([1, 2] : List Int))).bind fun t172 => (if t172 = true then ((content_Count.f k y160 (⟨#[77, 65, 84, 72]⟩ : ByteArray)).bind fun t173 => (if t173 = 2 then ((content_Parent.f k (⟨#[77, 65, 84, 72, 46, 65, 76, 71]⟩ : ByteArray)).bind fun bt174 => ((content_Parent.f k (⟨#[77, 65, 84, 72]⟩ : ByteArray)).bind fun bt176 => (if bt174.2 = true then (if bt176.2 = true then (none) else (if bt174.1.toList = ([77, 65, 84, 72] : List UInt8) then ((content_Under.f (⟨#[65, 46, 66]⟩ : ByteArray) (⟨#[65]⟩ : ByteArray)).bind fun t178 => (if t178 = true then ((content_Under.f (⟨#[65, 66]⟩ : ByteArray) (⟨#[65]⟩ : ByteArray)).bind fun t179 => (if t179 = true then (none) else ((Hand.content_Valid.f k (⟨#[65, 46, 66, 50]⟩ : ByteArray)).bind fun t180 => (if t180 = true then ((Hand.content_Valid.f k (⟨#[65, 46, 46, 66]⟩ : ByteArray)).bind fun t181 => (if t181 = true then (none) else ((Hand.content_Valid.f k (⟨#[97]⟩ : ByteArray)).bind fun t182 => (some (!t182))))) else (none))))) else (none))) else (none))) else (none)))) else (none))) else (none))))) else (none))) = some r := H
                have A12 := Aside0.mk A120
                clear A120
                obtain ⟨y156, hy156⟩ : ∃ y_ : List ByteArray, y_ = (([(⟨#[77, 65, 84, 72]⟩ : ByteArray), (⟨#[82, 69, 65, 68]⟩ : ByteArray)] : List ByteArray)) := ⟨_, rfl⟩
                replace H : ((examboardref13_SameStrings.f k t153 y156).bind fun t159 => (if t159 = true then ((some (([(⟨#[77, 65, 84, 72, 46, 65, 76, 71]⟩ : ByteArray), (⟨#[77, 65, 84, 72, 46, 65, 76, 71]⟩ : ByteArray)] : List ByteArray) : List ByteArray)).bind fun y160 => ((content_Unmet.f k y160 (([(⟨(⟨#[77, 65, 84, 72]⟩ : ByteArray), 1, 2⟩ : S51), (⟨(⟨#[77, 65, 84, 72, 46, 71, 69, 79]⟩ : ByteArray), 1, 1⟩ : S51), (⟨(⟨#[]⟩ : ByteArray), 0, 1⟩ : S51)] : List (S51)))).bind fun t166 => ((examboardref13_SameInts.f k t166 (([1, 2] : List Int))).bind fun t172 => (if t172 = true then ((content_Count.f k y160 (⟨#[77, 65, 84, 72]⟩ : ByteArray)).bind fun t173 => (if t173 = 2 then ((content_Parent.f k (⟨#[77, 65, 84, 72, 46, 65, 76, 71]⟩ : ByteArray)).bind fun bt174 => ((content_Parent.f k (⟨#[77, 65, 84, 72]⟩ : ByteArray)).bind fun bt176 => (if bt174.2 = true then (if bt176.2 = true then (none) else (if bt174.1.toList = ([77, 65, 84, 72] : List UInt8) then ((content_Under.f (⟨#[65, 46, 66]⟩ : ByteArray) (⟨#[65]⟩ : ByteArray)).bind fun t178 => (if t178 = true then ((content_Under.f (⟨#[65, 66]⟩ : ByteArray) (⟨#[65]⟩ : ByteArray)).bind fun t179 => (if t179 = true then (none) else ((Hand.content_Valid.f k (⟨#[65, 46, 66, 50]⟩ : ByteArray)).bind fun t180 => (if t180 = true then ((Hand.content_Valid.f k (⟨#[65, 46, 46, 66]⟩ : ByteArray)).bind fun t181 => (if t181 = true then (none) else ((Hand.content_Valid.f k (⟨#[97]⟩ : ByteArray)).bind fun t182 => (some (!t182))))) else (none))))) else (none))) else (none))) else (none)))) else (none))) else (none))))) else (none))) = some r := by first | (rw [hy156]; with_reducible exact H) | (have H2_ := (Option.bind_some _ _).symm.trans H; rw [hy156]; with_reducible exact H2_) | (have H2_ := (Option.bind_some _ _).symm.trans H; with_reducible exact H2_) | with_reducible exact H | (rw [hy156]; exact H) | exact H
                have Ny156 := Aside0.mk hy156
                clear hy156
                replace H := Option.bind_eq_some_iff.mp H
                obtain ⟨t159, A130, H⟩ := H
                replace H : (if t159 = true then ((some (([(⟨#[77, 65, 84, 72, 46, 65, 76, 71]⟩ : ByteArray), (⟨#[77, 65, 84, 72, 46, 65, 76, 71]⟩ : ByteArray)] : List ByteArray) : List ByteArray)).bind fun y160 => ((content_Unmet.f k y160 (([(⟨(⟨#[77, 65, 84, 72]⟩ : ByteArray), 1, 2⟩ : S51), (⟨(⟨#[77, 65, 84, 72, 46, 71, 69, 79]⟩ : ByteArray), 1, 1⟩ : S51), (⟨(⟨#[]⟩ : ByteArray), 0, 1⟩ : S51)] : List (S51)))).bind fun t166 => ((examboardref13_SameInts.f k t166 (([1, 2] : List Int))).bind fun t172 => (if t172 = true then ((content_Count.f k y160 (⟨#[77, 65, 84, 72]⟩ : ByteArray)).bind fun t173 => (if t173 = 2 then ((content_Parent.f k (⟨#[77, 65, 84, 72, 46, 65, 76, 71]⟩ : ByteArray)).bind fun bt174 => ((content_Parent.f k (⟨#[77, 65, 84, 72]⟩ : ByteArray)).bind fun bt176 => (if bt174.2 = true then (if bt176.2 = true then (none) else (if bt174.1.toList = ([77, 65, 84, 72] : List UInt8) then ((content_Under.f (⟨#[65, 46, 66]⟩ : ByteArray) (⟨#[65]⟩ : ByteArray)).bind fun t178 => (if t178 = true then ((content_Under.f (⟨#[65, 66]⟩ : ByteArray) (⟨#[65]⟩ : ByteArray)).bind fun t179 => (if t179 = true then (none) else ((Hand.content_Valid.f k (⟨#[65, 46, 66, 50]⟩ : ByteArray)).bind fun t180 => (if t180 = true then ((Hand.content_Valid.f k (⟨#[65, 46, 46, 66]⟩ : ByteArray)).bind fun t181 => (if t181 = true then (none) else ((Hand.content_Valid.f k (⟨#[97]⟩ : ByteArray)).bind fun t182 => (some (!t182))))) else (none))))) else (none))) else (none))) else (none)))) else (none))) else (none))))) else (none)) = some r := H
                have A13 := Aside0.mk A130
                clear A130
                by_cases c14 : t159 = true
                · subst c14
                  have H1 : ((some (([(⟨#[77, 65, 84, 72, 46, 65, 76, 71]⟩ : ByteArray), (⟨#[77, 65, 84, 72, 46, 65, 76, 71]⟩ : ByteArray)] : List ByteArray) : List ByteArray)).bind fun y160 => ((content_Unmet.f k y160 (([(⟨(⟨#[77, 65, 84, 72]⟩ : ByteArray), 1, 2⟩ : S51), (⟨(⟨#[77, 65, 84, 72, 46, 71, 69, 79]⟩ : ByteArray), 1, 1⟩ : S51), (⟨(⟨#[]⟩ : ByteArray), 0, 1⟩ : S51)] : List (S51)))).bind fun t166 => ((examboardref13_SameInts.f k t166 (([1, 2] : List Int))).bind fun t172 => (if t172 = true then ((content_Count.f k y160 (⟨#[77, 65, 84, 72]⟩ : ByteArray)).bind fun t173 => (if t173 = 2 then ((content_Parent.f k (⟨#[77, 65, 84, 72, 46, 65, 76, 71]⟩ : ByteArray)).bind fun bt174 => ((content_Parent.f k (⟨#[77, 65, 84, 72]⟩ : ByteArray)).bind fun bt176 => (if bt174.2 = true then (if bt176.2 = true then (none) else (if bt174.1.toList = ([77, 65, 84, 72] : List UInt8) then ((content_Under.f (⟨#[65, 46, 66]⟩ : ByteArray) (⟨#[65]⟩ : ByteArray)).bind fun t178 => (if t178 = true then ((content_Under.f (⟨#[65, 66]⟩ : ByteArray) (⟨#[65]⟩ : ByteArray)).bind fun t179 => (if t179 = true then (none) else ((Hand.content_Valid.f k (⟨#[65, 46, 66, 50]⟩ : ByteArray)).bind fun t180 => (if t180 = true then ((Hand.content_Valid.f k (⟨#[65, 46, 46, 66]⟩ : ByteArray)).bind fun t181 => (if t181 = true then (none) else ((Hand.content_Valid.f k (⟨#[97]⟩ : ByteArray)).bind fun t182 => (some (!t182))))) else (none))))) else (none))) else (none))) else (none)))) else (none))) else (none))))) = some r := by rw [if_pos rfl] at H; exact H
                  clear H
                  have H := H1
                  clear H1
                  obtain ⟨y160, hy160⟩ : ∃ y_ : List ByteArray, y_ = (([(⟨#[77, 65, 84, 72, 46, 65, 76, 71]⟩ : ByteArray), (⟨#[77, 65, 84, 72, 46, 65, 76, 71]⟩ : ByteArray)] : List ByteArray)) := ⟨_, rfl⟩
                  replace H : ((content_Unmet.f k y160 (([(⟨(⟨#[77, 65, 84, 72]⟩ : ByteArray), 1, 2⟩ : S51), (⟨(⟨#[77, 65, 84, 72, 46, 71, 69, 79]⟩ : ByteArray), 1, 1⟩ : S51), (⟨(⟨#[]⟩ : ByteArray), 0, 1⟩ : S51)] : List (S51)))).bind fun t166 => ((examboardref13_SameInts.f k t166 (([1, 2] : List Int))).bind fun t172 => (if t172 = true then ((content_Count.f k y160 (⟨#[77, 65, 84, 72]⟩ : ByteArray)).bind fun t173 => (if t173 = 2 then ((content_Parent.f k (⟨#[77, 65, 84, 72, 46, 65, 76, 71]⟩ : ByteArray)).bind fun bt174 => ((content_Parent.f k (⟨#[77, 65, 84, 72]⟩ : ByteArray)).bind fun bt176 => (if bt174.2 = true then (if bt176.2 = true then (none) else (if bt174.1.toList = ([77, 65, 84, 72] : List UInt8) then ((content_Under.f (⟨#[65, 46, 66]⟩ : ByteArray) (⟨#[65]⟩ : ByteArray)).bind fun t178 => (if t178 = true then ((content_Under.f (⟨#[65, 66]⟩ : ByteArray) (⟨#[65]⟩ : ByteArray)).bind fun t179 => (if t179 = true then (none) else ((Hand.content_Valid.f k (⟨#[65, 46, 66, 50]⟩ : ByteArray)).bind fun t180 => (if t180 = true then ((Hand.content_Valid.f k (⟨#[65, 46, 46, 66]⟩ : ByteArray)).bind fun t181 => (if t181 = true then (none) else ((Hand.content_Valid.f k (⟨#[97]⟩ : ByteArray)).bind fun t182 => (some (!t182))))) else (none))))) else (none))) else (none))) else (none)))) else (none))) else (none)))) = some r := by first | (rw [hy160]; with_reducible exact H) | (have H2_ := (Option.bind_some _ _).symm.trans H; rw [hy160]; with_reducible exact H2_) | (have H2_ := (Option.bind_some _ _).symm.trans H; with_reducible exact H2_) | with_reducible exact H | (rw [hy160]; exact H) | exact H
                  have Ny160 := Aside0.mk hy160
                  clear hy160
                  obtain ⟨y163, hy163⟩ : ∃ y_ : List (S51), y_ = (([(⟨(⟨#[77, 65, 84, 72]⟩ : ByteArray), 1, 2⟩ : S51), (⟨(⟨#[77, 65, 84, 72, 46, 71, 69, 79]⟩ : ByteArray), 1, 1⟩ : S51), (⟨(⟨#[]⟩ : ByteArray), 0, 1⟩ : S51)] : List (S51))) := ⟨_, rfl⟩
                  replace H : ((content_Unmet.f k y160 y163).bind fun t166 => ((examboardref13_SameInts.f k t166 (([1, 2] : List Int))).bind fun t172 => (if t172 = true then ((content_Count.f k y160 (⟨#[77, 65, 84, 72]⟩ : ByteArray)).bind fun t173 => (if t173 = 2 then ((content_Parent.f k (⟨#[77, 65, 84, 72, 46, 65, 76, 71]⟩ : ByteArray)).bind fun bt174 => ((content_Parent.f k (⟨#[77, 65, 84, 72]⟩ : ByteArray)).bind fun bt176 => (if bt174.2 = true then (if bt176.2 = true then (none) else (if bt174.1.toList = ([77, 65, 84, 72] : List UInt8) then ((content_Under.f (⟨#[65, 46, 66]⟩ : ByteArray) (⟨#[65]⟩ : ByteArray)).bind fun t178 => (if t178 = true then ((content_Under.f (⟨#[65, 66]⟩ : ByteArray) (⟨#[65]⟩ : ByteArray)).bind fun t179 => (if t179 = true then (none) else ((Hand.content_Valid.f k (⟨#[65, 46, 66, 50]⟩ : ByteArray)).bind fun t180 => (if t180 = true then ((Hand.content_Valid.f k (⟨#[65, 46, 46, 66]⟩ : ByteArray)).bind fun t181 => (if t181 = true then (none) else ((Hand.content_Valid.f k (⟨#[97]⟩ : ByteArray)).bind fun t182 => (some (!t182))))) else (none))))) else (none))) else (none))) else (none)))) else (none))) else (none)))) = some r := by first | (rw [hy163]; with_reducible exact H) | (have H2_ := (Option.bind_some _ _).symm.trans H; rw [hy163]; with_reducible exact H2_) | (have H2_ := (Option.bind_some _ _).symm.trans H; with_reducible exact H2_) | with_reducible exact H | (rw [hy163]; exact H) | exact H
                  have Ny163 := Aside0.mk hy163
                  clear hy163
                  replace H := Option.bind_eq_some_iff.mp H
                  obtain ⟨t166, A150, H⟩ := H
                  replace H : ((examboardref13_SameInts.f k t166 (([1, 2] : List Int))).bind fun t172 => (if t172 = true then ((content_Count.f k y160 (⟨#[77, 65, 84, 72]⟩ : ByteArray)).bind fun t173 => (if t173 = 2 then ((content_Parent.f k (⟨#[77, 65, 84, 72, 46, 65, 76, 71]⟩ : ByteArray)).bind fun bt174 => ((content_Parent.f k (⟨#[77, 65, 84, 72]⟩ : ByteArray)).bind fun bt176 => (if bt174.2 = true then (if bt176.2 = true then (none) else (if bt174.1.toList = ([77, 65, 84, 72] : List UInt8) then ((content_Under.f (⟨#[65, 46, 66]⟩ : ByteArray) (⟨#[65]⟩ : ByteArray)).bind fun t178 => (if t178 = true then ((content_Under.f (⟨#[65, 66]⟩ : ByteArray) (⟨#[65]⟩ : ByteArray)).bind fun t179 => (if t179 = true then (none) else ((Hand.content_Valid.f k (⟨#[65, 46, 66, 50]⟩ : ByteArray)).bind fun t180 => (if t180 = true then ((Hand.content_Valid.f k (⟨#[65, 46, 46, 66]⟩ : ByteArray)).bind fun t181 => (if t181 = true then (none) else ((Hand.content_Valid.f k (⟨#[97]⟩ : ByteArray)).bind fun t182 => (some (!t182))))) else (none))))) else (none))) else (none))) else (none)))) else (none))) else (none))) = some r := H
                  have A15 := Aside0.mk A150
                  clear A150
                  obtain ⟨y169, hy169⟩ : ∃ y_ : List Int, y_ = (([1, 2] : List Int)) := ⟨_, rfl⟩
                  replace H : ((examboardref13_SameInts.f k t166 y169).bind fun t172 => (if t172 = true then ((content_Count.f k y160 (⟨#[77, 65, 84, 72]⟩ : ByteArray)).bind fun t173 => (if t173 = 2 then ((content_Parent.f k (⟨#[77, 65, 84, 72, 46, 65, 76, 71]⟩ : ByteArray)).bind fun bt174 => ((content_Parent.f k (⟨#[77, 65, 84, 72]⟩ : ByteArray)).bind fun bt176 => (if bt174.2 = true then (if bt176.2 = true then (none) else (if bt174.1.toList = ([77, 65, 84, 72] : List UInt8) then ((content_Under.f (⟨#[65, 46, 66]⟩ : ByteArray) (⟨#[65]⟩ : ByteArray)).bind fun t178 => (if t178 = true then ((content_Under.f (⟨#[65, 66]⟩ : ByteArray) (⟨#[65]⟩ : ByteArray)).bind fun t179 => (if t179 = true then (none) else ((Hand.content_Valid.f k (⟨#[65, 46, 66, 50]⟩ : ByteArray)).bind fun t180 => (if t180 = true then ((Hand.content_Valid.f k (⟨#[65, 46, 46, 66]⟩ : ByteArray)).bind fun t181 => (if t181 = true then (none) else ((Hand.content_Valid.f k (⟨#[97]⟩ : ByteArray)).bind fun t182 => (some (!t182))))) else (none))))) else (none))) else (none))) else (none)))) else (none))) else (none))) = some r := by first | (rw [hy169]; with_reducible exact H) | (have H2_ := (Option.bind_some _ _).symm.trans H; rw [hy169]; with_reducible exact H2_) | (have H2_ := (Option.bind_some _ _).symm.trans H; with_reducible exact H2_) | with_reducible exact H | (rw [hy169]; exact H) | exact H
                  have Ny169 := Aside0.mk hy169
                  clear hy169
                  replace H := Option.bind_eq_some_iff.mp H
                  obtain ⟨t172, A160, H⟩ := H
                  replace H : (if t172 = true then ((content_Count.f k y160 (⟨#[77, 65, 84, 72]⟩ : ByteArray)).bind fun t173 => (if t173 = 2 then ((content_Parent.f k (⟨#[77, 65, 84, 72, 46, 65, 76, 71]⟩ : ByteArray)).bind fun bt174 => ((content_Parent.f k (⟨#[77, 65, 84, 72]⟩ : ByteArray)).bind fun bt176 => (if bt174.2 = true then (if bt176.2 = true then (none) else (if bt174.1.toList = ([77, 65, 84, 72] : List UInt8) then ((content_Under.f (⟨#[65, 46, 66]⟩ : ByteArray) (⟨#[65]⟩ : ByteArray)).bind fun t178 => (if t178 = true then ((content_Under.f (⟨#[65, 66]⟩ : ByteArray) (⟨#[65]⟩ : ByteArray)).bind fun t179 => (if t179 = true then (none) else ((Hand.content_Valid.f k (⟨#[65, 46, 66, 50]⟩ : ByteArray)).bind fun t180 => (if t180 = true then ((Hand.content_Valid.f k (⟨#[65, 46, 46, 66]⟩ : ByteArray)).bind fun t181 => (if t181 = true then (none) else ((Hand.content_Valid.f k (⟨#[97]⟩ : ByteArray)).bind fun t182 => (some (!t182))))) else (none))))) else (none))) else (none))) else (none)))) else (none))) else (none)) = some r := H
                  have A16 := Aside0.mk A160
                  clear A160
                  by_cases c17 : t172 = true
                  · subst c17
                    have H1 : ((content_Count.f k y160 (⟨#[77, 65, 84, 72]⟩ : ByteArray)).bind fun t173 => (if t173 = 2 then ((content_Parent.f k (⟨#[77, 65, 84, 72, 46, 65, 76, 71]⟩ : ByteArray)).bind fun bt174 => ((content_Parent.f k (⟨#[77, 65, 84, 72]⟩ : ByteArray)).bind fun bt176 => (if bt174.2 = true then (if bt176.2 = true then (none) else (if bt174.1.toList = ([77, 65, 84, 72] : List UInt8) then ((content_Under.f (⟨#[65, 46, 66]⟩ : ByteArray) (⟨#[65]⟩ : ByteArray)).bind fun t178 => (if t178 = true then ((content_Under.f (⟨#[65, 66]⟩ : ByteArray) (⟨#[65]⟩ : ByteArray)).bind fun t179 => (if t179 = true then (none) else ((Hand.content_Valid.f k (⟨#[65, 46, 66, 50]⟩ : ByteArray)).bind fun t180 => (if t180 = true then ((Hand.content_Valid.f k (⟨#[65, 46, 46, 66]⟩ : ByteArray)).bind fun t181 => (if t181 = true then (none) else ((Hand.content_Valid.f k (⟨#[97]⟩ : ByteArray)).bind fun t182 => (some (!t182))))) else (none))))) else (none))) else (none))) else (none)))) else (none))) = some r := by rw [if_pos rfl] at H; exact H
                    clear H
                    have H := H1
                    clear H1
                    replace H := Option.bind_eq_some_iff.mp H
                    obtain ⟨t173, A180, H⟩ := H
                    replace H : (if t173 = 2 then ((content_Parent.f k (⟨#[77, 65, 84, 72, 46, 65, 76, 71]⟩ : ByteArray)).bind fun bt174 => ((content_Parent.f k (⟨#[77, 65, 84, 72]⟩ : ByteArray)).bind fun bt176 => (if bt174.2 = true then (if bt176.2 = true then (none) else (if bt174.1.toList = ([77, 65, 84, 72] : List UInt8) then ((content_Under.f (⟨#[65, 46, 66]⟩ : ByteArray) (⟨#[65]⟩ : ByteArray)).bind fun t178 => (if t178 = true then ((content_Under.f (⟨#[65, 66]⟩ : ByteArray) (⟨#[65]⟩ : ByteArray)).bind fun t179 => (if t179 = true then (none) else ((Hand.content_Valid.f k (⟨#[65, 46, 66, 50]⟩ : ByteArray)).bind fun t180 => (if t180 = true then ((Hand.content_Valid.f k (⟨#[65, 46, 46, 66]⟩ : ByteArray)).bind fun t181 => (if t181 = true then (none) else ((Hand.content_Valid.f k (⟨#[97]⟩ : ByteArray)).bind fun t182 => (some (!t182))))) else (none))))) else (none))) else (none))) else (none)))) else (none)) = some r := H
                    have A18 := Aside0.mk A180
                    clear A180
                    by_cases c19 : t173 = 2
                    · rw [if_pos c19] at H
                      have c19b0 : (t173 == 2) = true := beq_iff_eq.mpr c19
                      have c19b1 : (t173 != 2) = false := bne_eq_false_iff_eq.mpr c19
                      clear c19
                      replace H := Option.bind_eq_some_iff.mp H
                      obtain ⟨⟨t174, t175⟩, A200, H⟩ := H
                      replace H : ((content_Parent.f k (⟨#[77, 65, 84, 72]⟩ : ByteArray)).bind fun bt176 => (if t175 = true then (if bt176.2 = true then (none) else (if t174.toList = ([77, 65, 84, 72] : List UInt8) then ((content_Under.f (⟨#[65, 46, 66]⟩ : ByteArray) (⟨#[65]⟩ : ByteArray)).bind fun t178 => (if t178 = true then ((content_Under.f (⟨#[65, 66]⟩ : ByteArray) (⟨#[65]⟩ : ByteArray)).bind fun t179 => (if t179 = true then (none) else ((Hand.content_Valid.f k (⟨#[65, 46, 66, 50]⟩ : ByteArray)).bind fun t180 => (if t180 = true then ((Hand.content_Valid.f k (⟨#[65, 46, 46, 66]⟩ : ByteArray)).bind fun t181 => (if t181 = true then (none) else ((Hand.content_Valid.f k (⟨#[97]⟩ : ByteArray)).bind fun t182 => (some (!t182))))) else (none))))) else (none))) else (none))) else (none))) = some r := H
                      have A20 := Aside0.mk A200
                      clear A200
                      replace H := Option.bind_eq_some_iff.mp H
                      obtain ⟨⟨t176, t177⟩, A210, H⟩ := H
                      replace H : (if t175 = true then (if t177 = true then (none) else (if t174.toList = ([77, 65, 84, 72] : List UInt8) then ((content_Under.f (⟨#[65, 46, 66]⟩ : ByteArray) (⟨#[65]⟩ : ByteArray)).bind fun t178 => (if t178 = true then ((content_Under.f (⟨#[65, 66]⟩ : ByteArray) (⟨#[65]⟩ : ByteArray)).bind fun t179 => (if t179 = true then (none) else ((Hand.content_Valid.f k (⟨#[65, 46, 66, 50]⟩ : ByteArray)).bind fun t180 => (if t180 = true then ((Hand.content_Valid.f k (⟨#[65, 46, 46, 66]⟩ : ByteArray)).bind fun t181 => (if t181 = true then (none) else ((Hand.content_Valid.f k (⟨#[97]⟩ : ByteArray)).bind fun t182 => (some (!t182))))) else (none))))) else (none))) else (none))) else (none)) = some r := H
                      have A21 := Aside0.mk A210
                      clear A210
                      by_cases c22 : t175 = true
                      · subst c22
                        have H1 : (if t177 = true then (none) else (if t174.toList = ([77, 65, 84, 72] : List UInt8) then ((content_Under.f (⟨#[65, 46, 66]⟩ : ByteArray) (⟨#[65]⟩ : ByteArray)).bind fun t178 => (if t178 = true then ((content_Under.f (⟨#[65, 66]⟩ : ByteArray) (⟨#[65]⟩ : ByteArray)).bind fun t179 => (if t179 = true then (none) else ((Hand.content_Valid.f k (⟨#[65, 46, 66, 50]⟩ : ByteArray)).bind fun t180 => (if t180 = true then ((Hand.content_Valid.f k (⟨#[65, 46, 46, 66]⟩ : ByteArray)).bind fun t181 => (if t181 = true then (none) else ((Hand.content_Valid.f k (⟨#[97]⟩ : ByteArray)).bind fun t182 => (some (!t182))))) else (none))))) else (none))) else (none))) = some r := by rw [if_pos rfl] at H; exact H
                        clear H
                        have H := H1
                        clear H1
                        by_cases c23 : t177 = true
                        · subst c23
                          have H1 : (none) = some r := by rw [if_pos rfl] at H; exact H
                          clear H
                          have H := H1
                          clear H1
                          exact absurd H (by simp)
                        · replace c23 := Bool.eq_false_iff.mpr c23
                          subst c23
                          have H1 : (if t174.toList = ([77, 65, 84, 72] : List UInt8) then ((content_Under.f (⟨#[65, 46, 66]⟩ : ByteArray) (⟨#[65]⟩ : ByteArray)).bind fun t178 => (if t178 = true then ((content_Under.f (⟨#[65, 66]⟩ : ByteArray) (⟨#[65]⟩ : ByteArray)).bind fun t179 => (if t179 = true then (none) else ((Hand.content_Valid.f k (⟨#[65, 46, 66, 50]⟩ : ByteArray)).bind fun t180 => (if t180 = true then ((Hand.content_Valid.f k (⟨#[65, 46, 46, 66]⟩ : ByteArray)).bind fun t181 => (if t181 = true then (none) else ((Hand.content_Valid.f k (⟨#[97]⟩ : ByteArray)).bind fun t182 => (some (!t182))))) else (none))))) else (none))) else (none)) = some r := by rw [if_neg (show ¬ (false = true) by decide)] at H; exact H
                          clear H
                          have H := H1
                          clear H1
                          by_cases c24 : t174.toList = ([77, 65, 84, 72] : List UInt8)
                          · rw [if_pos c24] at H
                            have c24b0 : (t174.toList == ([77, 65, 84, 72] : List UInt8)) = true := beq_iff_eq.mpr c24
                            have c24b1 : (t174.toList != ([77, 65, 84, 72] : List UInt8)) = false := bne_eq_false_iff_eq.mpr c24
                            clear c24
                            replace H := Option.bind_eq_some_iff.mp H
                            obtain ⟨t178, A250, H⟩ := H
                            replace H : (if t178 = true then ((content_Under.f (⟨#[65, 66]⟩ : ByteArray) (⟨#[65]⟩ : ByteArray)).bind fun t179 => (if t179 = true then (none) else ((Hand.content_Valid.f k (⟨#[65, 46, 66, 50]⟩ : ByteArray)).bind fun t180 => (if t180 = true then ((Hand.content_Valid.f k (⟨#[65, 46, 46, 66]⟩ : ByteArray)).bind fun t181 => (if t181 = true then (none) else ((Hand.content_Valid.f k (⟨#[97]⟩ : ByteArray)).bind fun t182 => (some (!t182))))) else (none))))) else (none)) = some r := H
                            have A25 := Aside0.mk A250
                            clear A250
                            by_cases c26 : t178 = true
                            · subst c26
                              have H1 : ((content_Under.f (⟨#[65, 66]⟩ : ByteArray) (⟨#[65]⟩ : ByteArray)).bind fun t179 => (if t179 = true then (none) else ((Hand.content_Valid.f k (⟨#[65, 46, 66, 50]⟩ : ByteArray)).bind fun t180 => (if t180 = true then ((Hand.content_Valid.f k (⟨#[65, 46, 46, 66]⟩ : ByteArray)).bind fun t181 => (if t181 = true then (none) else ((Hand.content_Valid.f k (⟨#[97]⟩ : ByteArray)).bind fun t182 => (some (!t182))))) else (none))))) = some r := by rw [if_pos rfl] at H; exact H
                              clear H
                              have H := H1
                              clear H1
                              replace H := Option.bind_eq_some_iff.mp H
                              obtain ⟨t179, A270, H⟩ := H
                              replace H : (if t179 = true then (none) else ((Hand.content_Valid.f k (⟨#[65, 46, 66, 50]⟩ : ByteArray)).bind fun t180 => (if t180 = true then ((Hand.content_Valid.f k (⟨#[65, 46, 46, 66]⟩ : ByteArray)).bind fun t181 => (if t181 = true then (none) else ((Hand.content_Valid.f k (⟨#[97]⟩ : ByteArray)).bind fun t182 => (some (!t182))))) else (none)))) = some r := H
                              have A27 := Aside0.mk A270
                              clear A270
                              by_cases c28 : t179 = true
                              · subst c28
                                have H1 : (none) = some r := by rw [if_pos rfl] at H; exact H
                                clear H
                                have H := H1
                                clear H1
                                exact absurd H (by simp)
                              · replace c28 := Bool.eq_false_iff.mpr c28
                                subst c28
                                have H1 : ((Hand.content_Valid.f k (⟨#[65, 46, 66, 50]⟩ : ByteArray)).bind fun t180 => (if t180 = true then ((Hand.content_Valid.f k (⟨#[65, 46, 46, 66]⟩ : ByteArray)).bind fun t181 => (if t181 = true then (none) else ((Hand.content_Valid.f k (⟨#[97]⟩ : ByteArray)).bind fun t182 => (some (!t182))))) else (none))) = some r := by rw [if_neg (show ¬ (false = true) by decide)] at H; exact H
                                clear H
                                have H := H1
                                clear H1
                                replace H := Option.bind_eq_some_iff.mp H
                                obtain ⟨t180, A290, H⟩ := H
                                replace H : (if t180 = true then ((Hand.content_Valid.f k (⟨#[65, 46, 46, 66]⟩ : ByteArray)).bind fun t181 => (if t181 = true then (none) else ((Hand.content_Valid.f k (⟨#[97]⟩ : ByteArray)).bind fun t182 => (some (!t182))))) else (none)) = some r := H
                                have A29 := Aside0.mk A290
                                clear A290
                                by_cases c30 : t180 = true
                                · subst c30
                                  have H1 : ((Hand.content_Valid.f k (⟨#[65, 46, 46, 66]⟩ : ByteArray)).bind fun t181 => (if t181 = true then (none) else ((Hand.content_Valid.f k (⟨#[97]⟩ : ByteArray)).bind fun t182 => (some (!t182))))) = some r := by rw [if_pos rfl] at H; exact H
                                  clear H
                                  have H := H1
                                  clear H1
                                  replace H := Option.bind_eq_some_iff.mp H
                                  obtain ⟨t181, A310, H⟩ := H
                                  replace H : (if t181 = true then (none) else ((Hand.content_Valid.f k (⟨#[97]⟩ : ByteArray)).bind fun t182 => (some (!t182)))) = some r := H
                                  have A31 := Aside0.mk A310
                                  clear A310
                                  by_cases c32 : t181 = true
                                  · subst c32
                                    have H1 : (none) = some r := by rw [if_pos rfl] at H; exact H
                                    clear H
                                    have H := H1
                                    clear H1
                                    exact absurd H (by simp)
                                  · replace c32 := Bool.eq_false_iff.mpr c32
                                    subst c32
                                    have H1 : ((Hand.content_Valid.f k (⟨#[97]⟩ : ByteArray)).bind fun t182 => (some (!t182))) = some r := by rw [if_neg (show ¬ (false = true) by decide)] at H; exact H
                                    clear H
                                    have H := H1
                                    clear H1
                                    replace H := Option.bind_eq_some_iff.mp H
                                    obtain ⟨t182, A330, H⟩ := H
                                    replace H : (some (!t182)) = some r := H
                                    have A33 := Aside0.mk A330
                                    clear A330
                                    obtain rfl := Option.some.inj H
                                    go_enter Try.func14, Try.ntmps14
                                    go_wp2_with (first | ((with_reducible refine gate_dst (N := 16) rfl ?_); (try (refine gate_guard (by rfl) ?_; dsimp only)); refine Kd.R_lit k42 _ 42 ?hg (N := 16) ?hd (xs := ([(⟨(⟨#[77, 65, 84, 72]⟩ : ByteArray), (⟨#[109]⟩ : ByteArray)⟩ : S42), (⟨(⟨#[77, 65, 84, 72, 46, 65, 76, 71]⟩ : ByteArray), (⟨#[97]⟩ : ByteArray)⟩ : S42), (⟨(⟨#[77, 65, 84, 72, 46, 71, 69, 79]⟩ : ByteArray), (⟨#[103]⟩ : ByteArray)⟩ : S42), (⟨(⟨#[82, 69, 65, 68]⟩ : ByteArray), (⟨#[114]⟩ : ByteArray)⟩ : S42)] : List (S42))) (inner := [.string (⟨#[77, 65, 84, 72]⟩ : ByteArray), .string (⟨#[109]⟩ : ByteArray), .string (⟨#[77, 65, 84, 72, 46, 65, 76, 71]⟩ : ByteArray), .string (⟨#[97]⟩ : ByteArray), .string (⟨#[77, 65, 84, 72, 46, 71, 69, 79]⟩ : ByteArray), .string (⟨#[103]⟩ : ByteArray), .string (⟨#[82, 69, 65, 68]⟩ : ByteArray), .string (⟨#[114]⟩ : ByteArray)]) (ok := fun _ => True) (okp := fun _ => True) ?hr ?hp (fun _ hk => hk) trivial (Below.refl _ _) (Nat.le_refl _) (by simp) ?_; (case hd => rfl); (case hg => rfl); (case hr => first | (go_simp; done) | (go_simp; rfl)); (case hp => exact (Reps.c2 (show Kd.M k42 _ _ _ (⟨(⟨#[77, 65, 84, 72]⟩ : ByteArray), (⟨#[109]⟩ : ByteArray)⟩ : S42) [.string (⟨#[77, 65, 84, 72]⟩ : ByteArray), .string (⟨#[109]⟩ : ByteArray)] from (k42_mkM _ _ _ (⟨(⟨#[77, 65, 84, 72]⟩ : ByteArray), (⟨#[109]⟩ : ByteArray)⟩ : S42) )) (Reps.c2 (show Kd.M k42 _ _ _ (⟨(⟨#[77, 65, 84, 72, 46, 65, 76, 71]⟩ : ByteArray), (⟨#[97]⟩ : ByteArray)⟩ : S42) [.string (⟨#[77, 65, 84, 72, 46, 65, 76, 71]⟩ : ByteArray), .string (⟨#[97]⟩ : ByteArray)] from (k42_mkM _ _ _ (⟨(⟨#[77, 65, 84, 72, 46, 65, 76, 71]⟩ : ByteArray), (⟨#[97]⟩ : ByteArray)⟩ : S42) )) (Reps.c2 (show Kd.M k42 _ _ _ (⟨(⟨#[77, 65, 84, 72, 46, 71, 69, 79]⟩ : ByteArray), (⟨#[103]⟩ : ByteArray)⟩ : S42) [.string (⟨#[77, 65, 84, 72, 46, 71, 69, 79]⟩ : ByteArray), .string (⟨#[103]⟩ : ByteArray)] from (k42_mkM _ _ _ (⟨(⟨#[77, 65, 84, 72, 46, 71, 69, 79]⟩ : ByteArray), (⟨#[103]⟩ : ByteArray)⟩ : S42) )) (Reps.c2 (show Kd.M k42 _ _ _ (⟨(⟨#[82, 69, 65, 68]⟩ : ByteArray), (⟨#[114]⟩ : ByteArray)⟩ : S42) [.string (⟨#[82, 69, 65, 68]⟩ : ByteArray), .string (⟨#[114]⟩ : ByteArray)] from (k42_mkM _ _ _ (⟨(⟨#[82, 69, 65, 68]⟩ : ByteArray), (⟨#[114]⟩ : ByteArray)⟩ : S42) )) (Reps.none _ _)))))); intro v136 w34 ho35 hb hg_ hnew_; clear hg_ hnew_; (first | rw [← Ny135.out] at ho35 | (simp only [Int.reduceToNat] at ho35; rw [← Ny135.out] at ho35)); have n0_ := Aside0.mk (Kd.R_lower ho35 (below_size (by repeat (first | (with_reducible first | exact HB.out | apply below_alloc | apply pw_below_drewN | apply below_drew1) | exact HB.out)))); have n1_ := Aside0.mk (below_step (by repeat (first | (with_reducible first | exact HB.out | apply below_alloc | apply pw_below_drewN | apply below_drew1) | exact HB.out)) hb); clear HB; have HO137 := n0_; have HB := n1_; clear n0_ n1_; clear hb ho35; obtain ⟨Ao36, co36, eo36⟩ := Kd.R_slice HO137.out; subst eo36) | ((with_reducible refine gate_callee (f := 23) rfl ?_); refine goesL_ (some 19) rfl rfl Try.func23 (by kernel_rfl) rfl #[.slice Ao36 y135.length co36] rfl (by (try simp only [List.map_toArray, List.map_cons, List.map_nil]); first | done | rfl | (simp only [List.length_drop, List.length_take]; rfl)) ?_; (with_reducible refine (content_Check.calls k _ _ y135 t138 t139 _ ?side1 ?side2 A1.out).mono ?_); (case side1 => repeat (first | exact (Kd.R_reads' HO137.out).2.2 | (with_reducible refine Kd.C_alloc ?_ _) | (with_reducible refine Kd.C_drewN ?_ _) | (with_reducible refine Kd.C_drew ?_))); (case side2 => exact (Kd.R_reads' HO137.out).2.1); rintro e w37 ⟨rfl, hb⟩; refine ⟨_, rfl, ?_⟩; have n0_ := Aside0.mk (Kd.R_below (by (with_reducible repeat (first | apply Kd.R_alloc | apply Kd.R_drewN | apply Kd.R_drew)); exact HO137.out) hb); have n1_ := Aside0.mk (below_step (by repeat (first | (with_reducible first | exact HB.out | apply below_alloc | apply pw_below_drewN | apply below_drew1) | exact HB.out)) hb); clear HO137; clear HB; have HO137 := n0_; have HB := n1_; clear n0_ n1_; (try clear hb); (try clear hb2); (try clear hk); (try clear hi); have q38 : (2 : Int) ≤ ((y135.length : Int) : Int) := of_decide_eq_true (by first | (with_reducible assumption) | assumption); obtain ⟨i038, hi038, _, hsz38, _⟩ := info_parts info42; have hroom38 : y135.length ≤ co36 := (Kd.R_reads' HO137.out).2.1; have hC38 : Kd.C k42 _ Ao36 y135.length y135 := (Kd.R_reads' HO137.out).2.2; have ql38 : (1 : Int) ≤ (2 : Int) := (by omega); have hcut38 := cut_mid (P := Try.prog) 27 42 .i64 .i64 Try.underlying27 hi038 2 hsz38 Ao36 y135.length co36 1 2 (by omega) ql38 q38 hroom38; have hr38 := Kd.C_mid (lo := (1 : Int).toNat) (hi := (2 : Int).toNat) (c := co36) hC38 (by omega) (by omega) hroom38; obtain ⟨A38, hA38⟩ : ∃ A1, A1 = (if co36 = (1 : Int).toNat then Ao36 else (Ao36 : Option Addr).map (·.add ((1 : Int).toNat * 2))) := ⟨_, rfl⟩; obtain ⟨c38, hc38⟩ : ∃ c1, c1 = co36 - (1 : Int).toNat := ⟨_, rfl⟩; have hy38 : y140.length = (2 : Int).toNat - (1 : Int).toNat := (by rw [Ny140.out, List.length_drop, List.length_take] <;> omega); rw [show ((y135).take (2 : Int).toNat).drop (1 : Int).toNat = y140 from Ny140.out.symm] at hr38; replace hr38 : Kd.C k42 _ A38 y140.length y140 := (by rw [hA38]; exact hr38); rw [← hy38, ← hA38, ← hc38] at hcut38; have HR143 := Aside0.mk hr38; have HC143 := Aside0.mk (show y140.length ≤ c38 from by rw [hy38, hc38]; exact Nat.sub_le_sub_right (Nat.le_trans (by omega) hroom38) _); clear hr38 hC38 hroom38 hi038 hsz38 hc38; have KY38 := Aside0.mk hy38; have KA38 := Aside0.mk hA38; clear hy38 hA38; have KL38 := Aside0.mk (show 2 ≤ y135.length from by omega); have KM38 := Aside0.mk (show 1 ≤ 2 from by omega); replace q38 := eq_true q38) | ((with_reducible refine gate_callee (f := 23) rfl ?_); refine goesL_ (some 25) rfl rfl Try.func23 (by kernel_rfl) rfl #[.slice A38 y140.length c38] rfl (by (try simp only [List.map_toArray, List.map_cons, List.map_nil]); first | done | rfl | (simp only [List.length_drop, List.length_take]; rfl)) ?_; (with_reducible refine (content_Check.calls k _ _ y140 t144 t145 _ ?side1 ?side2 A4.out).mono ?_); (case side1 => repeat (first | exact (by repeat (first | (with_reducible exact HR143.out) | (with_reducible refine Kd.C_alloc ?_ _) | (with_reducible refine Kd.C_drewN ?_ _) | (with_reducible refine Kd.C_drew ?_) | exact HR143.out)) | (with_reducible refine Kd.C_alloc ?_ _) | (with_reducible refine Kd.C_drewN ?_ _) | (with_reducible refine Kd.C_drew ?_))); (case side2 => exact HC143.out); rintro e w39 ⟨rfl, hb⟩; refine ⟨_, rfl, ?_⟩; have n0_ := Aside0.mk (Kd.R_below (by (with_reducible repeat (first | apply Kd.R_alloc | apply Kd.R_drewN | apply Kd.R_drew)); exact HO137.out) hb); have n1_ := Aside0.mk (Kd.C_below (by repeat (first | (with_reducible exact HR143.out) | (with_reducible refine Kd.C_alloc ?_ _) | (with_reducible refine Kd.C_drewN ?_ _) | (with_reducible refine Kd.C_drew ?_) | exact HR143.out)) hb); have n2_ := Aside0.mk (below_step (by repeat (first | (with_reducible first | exact HB.out | apply below_alloc | apply pw_below_drewN | apply below_drew1) | exact HB.out)) hb); clear HO137; clear HR143; clear HB; have HO137 := n0_; have HR143 := n1_; have HB := n2_; clear n0_ n1_ n2_; (try clear hb); (try clear hb2); (try clear hk); (try clear hi)) | ((with_reducible refine gate_callee (f := 16) rfl ?_); refine goesL_ (some 43) rfl rfl Try.func16 (by kernel_rfl) rfl #[.slice Ao36 y135.length co36, .string (⟨#[77, 65, 84, 72]⟩ : ByteArray)] rfl (by (try simp only [List.map_toArray, List.map_cons, List.map_nil]); first | done | rfl | (simp only [List.length_drop, List.length_take]; rfl)) ?_; (with_reducible refine (content_Kids.calls k _ _ y135 (⟨#[77, 65, 84, 72]⟩ : ByteArray) t146 _ ?side1 ?side2 A9.out).mono ?_); (case side1 => repeat (first | exact (Kd.R_reads' HO137.out).2.2 | (with_reducible refine Kd.C_alloc ?_ _) | (with_reducible refine Kd.C_drewN ?_ _) | (with_reducible refine Kd.C_drew ?_))); (case side2 => exact (Kd.R_reads' HO137.out).2.1); rintro e w40 ⟨v147, rfl, ho0, hb⟩; refine ⟨_, rfl, ?_⟩; have n0_ := Aside0.mk (Kd.R_below (by (with_reducible repeat (first | apply Kd.R_alloc | apply Kd.R_drewN | apply Kd.R_drew)); exact HO137.out) hb); have n1_ := Aside0.mk (Kd.R_lower ho0 (below_size (by repeat (first | (with_reducible first | exact HB.out | apply below_alloc | apply pw_below_drewN | apply below_drew1) | exact HB.out)))); have n2_ := Aside0.mk (Kd.C_below (by repeat (first | (with_reducible exact HR143.out) | (with_reducible refine Kd.C_alloc ?_ _) | (with_reducible refine Kd.C_drewN ?_ _) | (with_reducible refine Kd.C_drew ?_) | exact HR143.out)) hb); have n3_ := Aside0.mk (below_step (by repeat (first | (with_reducible first | exact HB.out | apply below_alloc | apply pw_below_drewN | apply below_drew1) | exact HB.out)) hb); clear HO137; clear HR143; clear HB; have HO137 := n0_; have HO148 := n1_; have HR143 := n2_; have HB := n3_; clear n0_ n1_ n2_ n3_; (try clear hb); (try clear hb2); (try clear hk); (try clear hi); (try clear ho0)) | ((with_reducible refine gate_dst (N := 44) rfl ?_); (try (refine gate_guard (by rfl) ?_; dsimp only)); refine Kd.R_lit Kd.string _ 9 ?hg (N := 44) ?hd (xs := ([(⟨#[77, 65, 84, 72, 46, 65, 76, 71]⟩ : ByteArray), (⟨#[77, 65, 84, 72, 46, 71, 69, 79]⟩ : ByteArray)] : List ByteArray)) (inner := [.string (⟨#[77, 65, 84, 72, 46, 65, 76, 71]⟩ : ByteArray), .string (⟨#[77, 65, 84, 72, 46, 71, 69, 79]⟩ : ByteArray)]) (ok := fun _ => True) (okp := fun _ => True) ?hr ?hp (fun _ hk => hk) trivial (Below.refl _ _) (Nat.le_refl _) (by simp) ?_; (case hd => rfl); (case hg => rfl); (case hr => first | (go_simp; done) | (go_simp; rfl)); (case hp => exact (Reps.one (show Kd.M Kd.string _ _ _ (⟨#[77, 65, 84, 72, 46, 65, 76, 71]⟩ : ByteArray) [.string (⟨#[77, 65, 84, 72, 46, 65, 76, 71]⟩ : ByteArray)] from rfl) (Reps.one (show Kd.M Kd.string _ _ _ (⟨#[77, 65, 84, 72, 46, 71, 69, 79]⟩ : ByteArray) [.string (⟨#[77, 65, 84, 72, 46, 71, 69, 79]⟩ : ByteArray)] from rfl) (Reps.none _ _)))); intro v150 w41 ho42 hb hg_ hnew_; clear hg_ hnew_; (first | rw [← Ny149.out] at ho42 | (simp only [Int.reduceToNat] at ho42; rw [← Ny149.out] at ho42)); have n0_ := Aside0.mk (Kd.R_below (by (with_reducible repeat (first | apply Kd.R_alloc | apply Kd.R_drewN | apply Kd.R_drew)); exact HO137.out) hb); have n1_ := Aside0.mk (Kd.R_elder' (by (with_reducible repeat (first | apply Kd.R_alloc | apply Kd.R_drewN | apply Kd.R_drew)); exact HO148.out) (Kd.R_base ho42) hb); have n2_ := Aside0.mk (Kd.R_lower (Kd.R_new' ho42 (Kd.R_lt (by (with_reducible repeat (first | apply Kd.R_alloc | apply Kd.R_drewN | apply Kd.R_drew)); exact HO148.out))) (below_size (by repeat (first | (with_reducible first | exact HB.out | apply below_alloc | apply pw_below_drewN | apply below_drew1) | exact HB.out)))); have n3_ := Aside0.mk (Kd.C_below (by repeat (first | (with_reducible exact HR143.out) | (with_reducible refine Kd.C_alloc ?_ _) | (with_reducible refine Kd.C_drewN ?_ _) | (with_reducible refine Kd.C_drew ?_) | exact HR143.out)) hb); have n4_ := Aside0.mk (below_step (by repeat (first | (with_reducible first | exact HB.out | apply below_alloc | apply pw_below_drewN | apply below_drew1) | exact HB.out)) hb); clear HO137; clear HO148; clear HR143; clear HB; have HO137 := n0_; have HO148 := n1_; have HO151 := n2_; have HR143 := n3_; have HB := n4_; clear n0_ n1_ n2_ n3_ n4_; clear hb ho42; obtain ⟨Ao43, co43, eo43⟩ := Kd.R_slice HO148.out; subst eo43; obtain ⟨Ao44, co44, eo44⟩ := Kd.R_slice HO151.out; subst eo44) | ((with_reducible refine gate_callee (f := 15) rfl ?_); refine goesL_ (some 45) rfl rfl Try.func15 (by kernel_rfl) rfl #[.slice Ao43 t146.length co43, .slice Ao44 y149.length co44] rfl (by (try simp only [List.map_toArray, List.map_cons, List.map_nil]); first | done | rfl | (simp only [List.length_drop, List.length_take]; rfl)) ?_; (with_reducible refine (examboardref13_SameStrings.calls k _ _ t146 _ _ y149 true _ ?side1 ?side2 ?side3 ?side4 A10.out).mono ?_); (case side1 => repeat (first | exact (Kd.R_reads' HO148.out).2.2 | (with_reducible refine Kd.C_alloc ?_ _) | (with_reducible refine Kd.C_drewN ?_ _) | (with_reducible refine Kd.C_drew ?_))); (case side2 => exact (Kd.R_reads' HO148.out).2.1); (case side3 => repeat (first | exact (Kd.R_reads' HO151.out).2.2 | (with_reducible refine Kd.C_alloc ?_ _) | (with_reducible refine Kd.C_drewN ?_ _) | (with_reducible refine Kd.C_drew ?_))); (case side4 => exact (Kd.R_reads' HO151.out).2.1); rintro e w' ⟨rfl, ⟨nd, rfl⟩⟩; refine ⟨_, rfl, ?_⟩) | (go_at_call 16; (with_reducible refine (content_Kids.calls k _ _ y135 (⟨#[]⟩ : ByteArray) t153 _ ?side1 ?side2 A12.out).mono ?_); (case side1 => repeat (first | exact (Kd.R_reads' HO137.out).2.2 | (with_reducible refine Kd.C_alloc ?_ _) | (with_reducible refine Kd.C_drewN ?_ _) | (with_reducible refine Kd.C_drew ?_))); (case side2 => exact (Kd.R_reads' HO137.out).2.1); rintro e w45 ⟨v154, rfl, ho0, hb⟩; have n0_ := Aside0.mk (Kd.R_below (by (with_reducible repeat (first | apply Kd.R_alloc | apply Kd.R_drewN | apply Kd.R_drew)); exact HO137.out) hb); have n1_ := Aside0.mk (Kd.R_elder' (by (with_reducible repeat (first | apply Kd.R_alloc | apply Kd.R_drewN | apply Kd.R_drew)); exact HO148.out) (Kd.R_base ho0) hb); have n2_ := Aside0.mk (Kd.R_elder' (by (with_reducible repeat (first | apply Kd.R_alloc | apply Kd.R_drewN | apply Kd.R_drew)); exact HO151.out) (Kd.R_base ho0) hb); have n3_ := Aside0.mk (Kd.R_lower (Kd.R_new' (Kd.R_new' ho0 (Kd.R_lt (by (with_reducible repeat (first | apply Kd.R_alloc | apply Kd.R_drewN | apply Kd.R_drew)); exact HO148.out))) (Kd.R_lt (by (with_reducible repeat (first | apply Kd.R_alloc | apply Kd.R_drewN | apply Kd.R_drew)); exact HO151.out))) (below_size (by repeat (first | (with_reducible first | exact HB.out | apply below_alloc | apply pw_below_drewN | apply below_drew1) | exact HB.out)))); have n4_ := Aside0.mk (Kd.C_below (by repeat (first | (with_reducible exact HR143.out) | (with_reducible refine Kd.C_alloc ?_ _) | (with_reducible refine Kd.C_drewN ?_ _) | (with_reducible refine Kd.C_drew ?_) | exact HR143.out)) hb); have n5_ := Aside0.mk (below_step (by repeat (first | (with_reducible first | exact HB.out | apply below_alloc | apply pw_below_drewN | apply below_drew1) | exact HB.out)) hb); clear HO137; clear HO148; clear HO151; clear HR143; clear HB; have HO137 := n0_; have HO148 := n1_; have HO151 := n2_; have HO155 := n3_; have HR143 := n4_; have HB := n5_; clear n0_ n1_ n2_ n3_ n4_ n5_; (try clear hb); (try clear hb2); (try clear hk); (try clear hi); (try clear ho0)) | ((with_reducible refine gate_dst (N := 50) rfl ?_); (try (refine gate_guard (by rfl) ?_; dsimp only)); refine Kd.R_lit Kd.string _ 9 ?hg (N := 50) ?hd (xs := ([(⟨#[77, 65, 84, 72]⟩ : ByteArray), (⟨#[82, 69, 65, 68]⟩ : ByteArray)] : List ByteArray)) (inner := [.string (⟨#[77, 65, 84, 72]⟩ : ByteArray), .string (⟨#[82, 69, 65, 68]⟩ : ByteArray)]) (ok := fun _ => True) (okp := fun _ => True) ?hr ?hp (fun _ hk => hk) trivial (Below.refl _ _) (Nat.le_refl _) (by simp) ?_; (case hd => rfl); (case hg => rfl); (case hr => first | (go_simp; done) | (go_simp; rfl)); (case hp => exact (Reps.one (show Kd.M Kd.string _ _ _ (⟨#[77, 65, 84, 72]⟩ : ByteArray) [.string (⟨#[77, 65, 84, 72]⟩ : ByteArray)] from rfl) (Reps.one (show Kd.M Kd.string _ _ _ (⟨#[82, 69, 65, 68]⟩ : ByteArray) [.string (⟨#[82, 69, 65, 68]⟩ : ByteArray)] from rfl) (Reps.none _ _)))); intro v157 w46 ho47 hb hg_ hnew_; clear hg_ hnew_; (first | rw [← Ny156.out] at ho47 | (simp only [Int.reduceToNat] at ho47; rw [← Ny156.out] at ho47)); have n0_ := Aside0.mk (Kd.R_below (by (with_reducible repeat (first | apply Kd.R_alloc | apply Kd.R_drewN | apply Kd.R_drew)); exact HO137.out) hb); have n1_ := Aside0.mk (Kd.R_elder' (by (with_reducible repeat (first | apply Kd.R_alloc | apply Kd.R_drewN | apply Kd.R_drew)); exact HO148.out) (Kd.R_base ho47) hb); have n2_ := Aside0.mk (Kd.R_elder' (by (with_reducible repeat (first | apply Kd.R_alloc | apply Kd.R_drewN | apply Kd.R_drew)); exact HO151.out) (Kd.R_base ho47) hb); have n3_ := Aside0.mk (Kd.R_elder' (by (with_reducible repeat (first | apply Kd.R_alloc | apply Kd.R_drewN | apply Kd.R_drew)); exact HO155.out) (Kd.R_base ho47) hb); have n4_ := Aside0.mk (Kd.R_lower (Kd.R_new' (Kd.R_new' (Kd.R_new' ho47 (Kd.R_lt (by (with_reducible repeat (first | apply Kd.R_alloc | apply Kd.R_drewN | apply Kd.R_drew)); exact HO148.out))) (Kd.R_lt (by (with_reducible repeat (first | apply Kd.R_alloc | apply Kd.R_drewN | apply Kd.R_drew)); exact HO151.out))) (Kd.R_lt (by (with_reducible repeat (first | apply Kd.R_alloc | apply Kd.R_drewN | apply Kd.R_drew)); exact HO155.out))) (below_size (by repeat (first | (with_reducible first | exact HB.out | apply below_alloc | apply pw_below_drewN | apply below_drew1) | exact HB.out)))); have n5_ := Aside0.mk (Kd.C_below (by repeat (first | (with_reducible exact HR143.out) | (with_reducible refine Kd.C_alloc ?_ _) | (with_reducible refine Kd.C_drewN ?_ _) | (with_reducible refine Kd.C_drew ?_) | exact HR143.out)) hb); have n6_ := Aside0.mk (below_step (by repeat (first | (with_reducible first | exact HB.out | apply below_alloc | apply pw_below_drewN | apply below_drew1) | exact HB.out)) hb); clear HO137; clear HO148; clear HO151; clear HO155; clear HR143; clear HB; have HO137 := n0_; have HO148 := n1_; have HO151 := n2_; have HO155 := n3_; have HO158 := n4_; have HR143 := n5_; have HB := n6_; clear n0_ n1_ n2_ n3_ n4_ n5_ n6_; clear hb ho47; obtain ⟨Ao48, co48, eo48⟩ := Kd.R_slice HO155.out; subst eo48; obtain ⟨Ao49, co49, eo49⟩ := Kd.R_slice HO158.out; subst eo49) | (go_at_call 15; (with_reducible refine (examboardref13_SameStrings.calls k _ _ t153 _ _ y156 true _ ?side1 ?side2 ?side3 ?side4 A13.out).mono ?_); (case side1 => repeat (first | exact (Kd.R_reads' HO155.out).2.2 | (with_reducible refine Kd.C_alloc ?_ _) | (with_reducible refine Kd.C_drewN ?_ _) | (with_reducible refine Kd.C_drew ?_))); (case side2 => exact (Kd.R_reads' HO155.out).2.1); (case side3 => repeat (first | exact (Kd.R_reads' HO158.out).2.2 | (with_reducible refine Kd.C_alloc ?_ _) | (with_reducible refine Kd.C_drewN ?_ _) | (with_reducible refine Kd.C_drew ?_))); (case side4 => exact (Kd.R_reads' HO158.out).2.1); rintro e w' ⟨rfl, ⟨nd, rfl⟩⟩) | ((with_reducible refine gate_dst (N := 54) rfl ?_); (try (refine gate_guard (by rfl) ?_; dsimp only)); refine Kd.R_lit Kd.string _ 9 ?hg (N := 54) ?hd (xs := ([(⟨#[77, 65, 84, 72, 46, 65, 76, 71]⟩ : ByteArray), (⟨#[77, 65, 84, 72, 46, 65, 76, 71]⟩ : ByteArray)] : List ByteArray)) (inner := [.string (⟨#[77, 65, 84, 72, 46, 65, 76, 71]⟩ : ByteArray), .string (⟨#[77, 65, 84, 72, 46, 65, 76, 71]⟩ : ByteArray)]) (ok := fun _ => True) (okp := fun _ => True) ?hr ?hp (fun _ hk => hk) trivial (Below.refl _ _) (Nat.le_refl _) (by simp) ?_; (case hd => rfl); (case hg => rfl); (case hr => first | (go_simp; done) | (go_simp; rfl)); (case hp => exact (Reps.one (show Kd.M Kd.string _ _ _ (⟨#[77, 65, 84, 72, 46, 65, 76, 71]⟩ : ByteArray) [.string (⟨#[77, 65, 84, 72, 46, 65, 76, 71]⟩ : ByteArray)] from rfl) (Reps.one (show Kd.M Kd.string _ _ _ (⟨#[77, 65, 84, 72, 46, 65, 76, 71]⟩ : ByteArray) [.string (⟨#[77, 65, 84, 72, 46, 65, 76, 71]⟩ : ByteArray)] from rfl) (Reps.none _ _)))); intro v161 w50 ho51 hb hg_ hnew_; clear hg_ hnew_; (first | rw [← Ny160.out] at ho51 | (simp only [Int.reduceToNat] at ho51; rw [← Ny160.out] at ho51)); have n0_ := Aside0.mk (Kd.R_below (by (with_reducible repeat (first | apply Kd.R_alloc | apply Kd.R_drewN | apply Kd.R_drew)); exact HO137.out) hb); have n1_ := Aside0.mk (Kd.R_elder' (by (with_reducible repeat (first | apply Kd.R_alloc | apply Kd.R_drewN | apply Kd.R_drew)); exact HO148.out) (Kd.R_base ho51) hb); have n2_ := Aside0.mk (Kd.R_elder' (by (with_reducible repeat (first | apply Kd.R_alloc | apply Kd.R_drewN | apply Kd.R_drew)); exact HO151.out) (Kd.R_base ho51) hb); have n3_ := Aside0.mk (Kd.R_elder' (by (with_reducible repeat (first | apply Kd.R_alloc | apply Kd.R_drewN | apply Kd.R_drew)); exact HO155.out) (Kd.R_base ho51) hb); have n4_ := Aside0.mk (Kd.R_elder' (by (with_reducible repeat (first | apply Kd.R_alloc | apply Kd.R_drewN | apply Kd.R_drew)); exact HO158.out) (Kd.R_base ho51) hb); have n5_ := Aside0.mk (Kd.R_lower (Kd.R_new' (Kd.R_new' (Kd.R_new' (Kd.R_new' ho51 (Kd.R_lt (by (with_reducible repeat (first | apply Kd.R_alloc | apply Kd.R_drewN | apply Kd.R_drew)); exact HO148.out))) (Kd.R_lt (by (with_reducible repeat (first | apply Kd.R_alloc | apply Kd.R_drewN | apply Kd.R_drew)); exact HO151.out))) (Kd.R_lt (by (with_reducible repeat (first | apply Kd.R_alloc | apply Kd.R_drewN | apply Kd.R_drew)); exact HO155.out))) (Kd.R_lt (by (with_reducible repeat (first | apply Kd.R_alloc | apply Kd.R_drewN | apply Kd.R_drew)); exact HO158.out))) (below_size (by repeat (first | (with_reducible first | exact HB.out | apply below_alloc | apply pw_below_drewN | apply below_drew1) | exact HB.out)))); have n6_ := Aside0.mk (Kd.C_below (by repeat (first | (with_reducible exact HR143.out) | (with_reducible refine Kd.C_alloc ?_ _) | (with_reducible refine Kd.C_drewN ?_ _) | (with_reducible refine Kd.C_drew ?_) | exact HR143.out)) hb); have n7_ := Aside0.mk (below_step (by repeat (first | (with_reducible first | exact HB.out | apply below_alloc | apply pw_below_drewN | apply below_drew1) | exact HB.out)) hb); clear HO137; clear HO148; clear HO151; clear HO155; clear HO158; clear HR143; clear HB; have HO137 := n0_; have HO148 := n1_; have HO151 := n2_; have HO155 := n3_; have HO158 := n4_; have HO162 := n5_; have HR143 := n6_; have HB := n7_; clear n0_ n1_ n2_ n3_ n4_ n5_ n6_ n7_; clear hb ho51) | ((with_reducible refine gate_dst (N := 58) rfl ?_); (try (refine gate_guard (by rfl) ?_; dsimp only)); refine Kd.R_lit k51 _ 51 ?hg (N := 58) ?hd (xs := ([(⟨(⟨#[77, 65, 84, 72]⟩ : ByteArray), 1, 2⟩ : S51), (⟨(⟨#[77, 65, 84, 72, 46, 71, 69, 79]⟩ : ByteArray), 1, 1⟩ : S51), (⟨(⟨#[]⟩ : ByteArray), 0, 1⟩ : S51)] : List (S51))) (inner := [.string (⟨#[77, 65, 84, 72]⟩ : ByteArray), .int .i64 1, .int .i64 2, .string (⟨#[77, 65, 84, 72, 46, 71, 69, 79]⟩ : ByteArray), .int .i64 1, .int .i64 1, .string (⟨#[]⟩ : ByteArray), .int .i64 0, .int .i64 1]) (ok := fun _ => True) (okp := fun _ => True) ?hr ?hp (fun _ hk => hk) trivial (Below.refl _ _) (Nat.le_refl _) (by simp) ?_; (case hd => rfl); (case hg => rfl); (case hr => first | (go_simp; done) | (go_simp; rfl)); (case hp => exact (Reps.c3 (show Kd.M k51 _ _ _ (⟨(⟨#[77, 65, 84, 72]⟩ : ByteArray), 1, 2⟩ : S51) [.string (⟨#[77, 65, 84, 72]⟩ : ByteArray), .int .i64 1, .int .i64 2] from (k51_mkM _ _ _ (⟨(⟨#[77, 65, 84, 72]⟩ : ByteArray), 1, 2⟩ : S51) )) (Reps.c3 (show Kd.M k51 _ _ _ (⟨(⟨#[77, 65, 84, 72, 46, 71, 69, 79]⟩ : ByteArray), 1, 1⟩ : S51) [.string (⟨#[77, 65, 84, 72, 46, 71, 69, 79]⟩ : ByteArray), .int .i64 1, .int .i64 1] from (k51_mkM _ _ _ (⟨(⟨#[77, 65, 84, 72, 46, 71, 69, 79]⟩ : ByteArray), 1, 1⟩ : S51) )) (Reps.c3 (show Kd.M k51 _ _ _ (⟨(⟨#[]⟩ : ByteArray), 0, 1⟩ : S51) [.string (⟨#[]⟩ : ByteArray), .int .i64 0, .int .i64 1] from (k51_mkM _ _ _ (⟨(⟨#[]⟩ : ByteArray), 0, 1⟩ : S51) )) (Reps.none _ _))))); intro v164 w52 ho53 hb hg_ hnew_; clear hg_ hnew_; (first | rw [← Ny163.out] at ho53 | (simp only [Int.reduceToNat] at ho53; rw [← Ny163.out] at ho53)); have n0_ := Aside0.mk (Kd.R_below (by (with_reducible repeat (first | apply Kd.R_alloc | apply Kd.R_drewN | apply Kd.R_drew)); exact HO137.out) hb); have n1_ := Aside0.mk (Kd.R_below (by (with_reducible repeat (first | apply Kd.R_alloc | apply Kd.R_drewN | apply Kd.R_drew)); exact HO148.out) hb); have n2_ := Aside0.mk (Kd.R_below (by (with_reducible repeat (first | apply Kd.R_alloc | apply Kd.R_drewN | apply Kd.R_drew)); exact HO151.out) hb); have n3_ := Aside0.mk (Kd.R_below (by (with_reducible repeat (first | apply Kd.R_alloc | apply Kd.R_drewN | apply Kd.R_drew)); exact HO155.out) hb); have n4_ := Aside0.mk (Kd.R_below (by (with_reducible repeat (first | apply Kd.R_alloc | apply Kd.R_drewN | apply Kd.R_drew)); exact HO158.out) hb); have n5_ := Aside0.mk (Kd.R_below (by (with_reducible repeat (first | apply Kd.R_alloc | apply Kd.R_drewN | apply Kd.R_drew)); exact HO162.out) hb); have n6_ := Aside0.mk (Kd.R_lower ho53 (below_size (by repeat (first | (with_reducible first | exact HB.out | apply below_alloc | apply pw_below_drewN | apply below_drew1) | exact HB.out)))); have n7_ := Aside0.mk (Kd.C_below (by repeat (first | (with_reducible exact HR143.out) | (with_reducible refine Kd.C_alloc ?_ _) | (with_reducible refine Kd.C_drewN ?_ _) | (with_reducible refine Kd.C_drew ?_) | exact HR143.out)) hb); have n8_ := Aside0.mk (below_step (by repeat (first | (with_reducible first | exact HB.out | apply below_alloc | apply pw_below_drewN | apply below_drew1) | exact HB.out)) hb); clear HO137; clear HO148; clear HO151; clear HO155; clear HO158; clear HO162; clear HR143; clear HB; have HO137 := n0_; have HO148 := n1_; have HO151 := n2_; have HO155 := n3_; have HO158 := n4_; have HO162 := n5_; have HO165 := n6_; have HR143 := n7_; have HB := n8_; clear n0_ n1_ n2_ n3_ n4_ n5_ n6_ n7_ n8_; clear hb ho53; obtain ⟨Ao54, co54, eo54⟩ := Kd.R_slice HO162.out; subst eo54; obtain ⟨Ao55, co55, eo55⟩ := Kd.R_slice HO165.out; subst eo55) | ((with_reducible refine gate_callee (f := 21) rfl ?_); refine goesL_ (some 61) rfl rfl Try.func21 (by kernel_rfl) rfl #[.slice Ao54 y160.length co54, .slice Ao55 y163.length co55] rfl (by (try simp only [List.map_toArray, List.map_cons, List.map_nil]); first | done | rfl | (simp only [List.length_drop, List.length_take]; rfl)) ?_; (with_reducible refine (content_Unmet.calls k _ _ y160 _ _ y163 t166 _ ?side1 ?side2 ?side3 ?side4 A15.out).mono ?_); (case side1 => repeat (first | exact (Kd.R_reads' HO162.out).2.2 | (with_reducible refine Kd.C_alloc ?_ _) | (with_reducible refine Kd.C_drewN ?_ _) | (with_reducible refine Kd.C_drew ?_))); (case side2 => exact (Kd.R_reads' HO162.out).2.1); (case side3 => repeat (first | exact (Kd.R_reads' HO165.out).2.2 | (with_reducible refine Kd.C_alloc ?_ _) | (with_reducible refine Kd.C_drewN ?_ _) | (with_reducible refine Kd.C_drew ?_))); (case side4 => exact (Kd.R_reads' HO165.out).2.1); rintro e w56 ⟨v167, rfl, ho0, hb⟩; refine ⟨_, rfl, ?_⟩; have n0_ := Aside0.mk (Kd.R_below (by (with_reducible repeat (first | apply Kd.R_alloc | apply Kd.R_drewN | apply Kd.R_drew)); exact HO137.out) hb); have n1_ := Aside0.mk (Kd.R_below (by (with_reducible repeat (first | apply Kd.R_alloc | apply Kd.R_drewN | apply Kd.R_drew)); exact HO148.out) hb); have n2_ := Aside0.mk (Kd.R_below (by (with_reducible repeat (first | apply Kd.R_alloc | apply Kd.R_drewN | apply Kd.R_drew)); exact HO151.out) hb); have n3_ := Aside0.mk (Kd.R_below (by (with_reducible repeat (first | apply Kd.R_alloc | apply Kd.R_drewN | apply Kd.R_drew)); exact HO155.out) hb); have n4_ := Aside0.mk (Kd.R_below (by (with_reducible repeat (first | apply Kd.R_alloc | apply Kd.R_drewN | apply Kd.R_drew)); exact HO158.out) hb); have n5_ := Aside0.mk (Kd.R_below (by (with_reducible repeat (first | apply Kd.R_alloc | apply Kd.R_drewN | apply Kd.R_drew)); exact HO162.out) hb); have n6_ := Aside0.mk (Kd.R_below (by (with_reducible repeat (first | apply Kd.R_alloc | apply Kd.R_drewN | apply Kd.R_drew)); exact HO165.out) hb); have n7_ := Aside0.mk (Kd.R_lower ho0 (below_size (by repeat (first | (with_reducible first | exact HB.out | apply below_alloc | apply pw_below_drewN | apply below_drew1) | exact HB.out)))); have n8_ := Aside0.mk (Kd.C_below (by repeat (first | (with_reducible exact HR143.out) | (with_reducible refine Kd.C_alloc ?_ _) | (with_reducible refine Kd.C_drewN ?_ _) | (with_reducible refine Kd.C_drew ?_) | exact HR143.out)) hb); have n9_ := Aside0.mk (below_step (by repeat (first | (with_reducible first | exact HB.out | apply below_alloc | apply pw_below_drewN | apply below_drew1) | exact HB.out)) hb); clear HO137; clear HO148; clear HO151; clear HO155; clear HO158; clear HO162; clear HO165; clear HR143; clear HB; have HO137 := n0_; have HO148 := n1_; have HO151 := n2_; have HO155 := n3_; have HO158 := n4_; have HO162 := n5_; have HO165 := n6_; have HO168 := n7_; have HR143 := n8_; have HB := n9_; clear n0_ n1_ n2_ n3_ n4_ n5_ n6_ n7_ n8_ n9_; (try clear hb); (try clear hb2); (try clear hk); (try clear hi); (try clear ho0)) | ((with_reducible refine gate_dst (N := 62) rfl ?_); (try (refine gate_guard (by rfl) ?_; dsimp only)); refine Kd.R_lit (Kd.int .i64) _ 3 ?hg (N := 62) ?hd (xs := ([1, 2] : List Int)) (inner := [.int .i64 1, .int .i64 2]) (ok := fun _ => True) (okp := fun _ => True) ?hr ?hp (fun _ hk => hk) trivial (Below.refl _ _) (Nat.le_refl _) (by simp) ?_; (case hd => rfl); (case hg => rfl); (case hr => first | (go_simp; done) | (go_simp; rfl)); (case hp => exact (Reps.one (show Kd.M (Kd.int .i64) _ _ _ 1 [.int .i64 1] from rfl) (Reps.one (show Kd.M (Kd.int .i64) _ _ _ 2 [.int .i64 2] from rfl) (Reps.none _ _)))); intro v170 w57 ho58 hb hg_ hnew_; clear hg_ hnew_; (first | rw [← Ny169.out] at ho58 | (simp only [Int.reduceToNat] at ho58; rw [← Ny169.out] at ho58)); have n0_ := Aside0.mk (Kd.R_below (by (with_reducible repeat (first | apply Kd.R_alloc | apply Kd.R_drewN | apply Kd.R_drew)); exact HO137.out) hb); have n1_ := Aside0.mk (Kd.R_below (by (with_reducible repeat (first | apply Kd.R_alloc | apply Kd.R_drewN | apply Kd.R_drew)); exact HO148.out) hb); have n2_ := Aside0.mk (Kd.R_below (by (with_reducible repeat (first | apply Kd.R_alloc | apply Kd.R_drewN | apply Kd.R_drew)); exact HO151.out) hb); have n3_ := Aside0.mk (Kd.R_below (by (with_reducible repeat (first | apply Kd.R_alloc | apply Kd.R_drewN | apply Kd.R_drew)); exact HO155.out) hb); have n4_ := Aside0.mk (Kd.R_below (by (with_reducible repeat (first | apply Kd.R_alloc | apply Kd.R_drewN | apply Kd.R_drew)); exact HO158.out) hb); have n5_ := Aside0.mk (Kd.R_below (by (with_reducible repeat (first | apply Kd.R_alloc | apply Kd.R_drewN | apply Kd.R_drew)); exact HO162.out) hb); have n6_ := Aside0.mk (Kd.R_below (by (with_reducible repeat (first | apply Kd.R_alloc | apply Kd.R_drewN | apply Kd.R_drew)); exact HO165.out) hb); have n7_ := Aside0.mk (Kd.R_elder' (by (with_reducible repeat (first | apply Kd.R_alloc | apply Kd.R_drewN | apply Kd.R_drew)); exact HO168.out) (Kd.R_base ho58) hb); have n8_ := Aside0.mk (Kd.R_lower (Kd.R_new' ho58 (Kd.R_lt (by (with_reducible repeat (first | apply Kd.R_alloc | apply Kd.R_drewN | apply Kd.R_drew)); exact HO168.out))) (below_size (by repeat (first | (with_reducible first | exact HB.out | apply below_alloc | apply pw_below_drewN | apply below_drew1) | exact HB.out)))); have n9_ := Aside0.mk (Kd.C_below (by repeat (first | (with_reducible exact HR143.out) | (with_reducible refine Kd.C_alloc ?_ _) | (with_reducible refine Kd.C_drewN ?_ _) | (with_reducible refine Kd.C_drew ?_) | exact HR143.out)) hb); have n10_ := Aside0.mk (below_step (by repeat (first | (with_reducible first | exact HB.out | apply below_alloc | apply pw_below_drewN | apply below_drew1) | exact HB.out)) hb); clear HO137; clear HO148; clear HO151; clear HO155; clear HO158; clear HO162; clear HO165; clear HO168; clear HR143; clear HB; have HO137 := n0_; have HO148 := n1_; have HO151 := n2_; have HO155 := n3_; have HO158 := n4_; have HO162 := n5_; have HO165 := n6_; have HO168 := n7_; have HO171 := n8_; have HR143 := n9_; have HB := n10_; clear n0_ n1_ n2_ n3_ n4_ n5_ n6_ n7_ n8_ n9_ n10_; clear hb ho58; obtain ⟨Ao59, co59, eo59⟩ := Kd.R_slice HO168.out; subst eo59; obtain ⟨Ao60, co60, eo60⟩ := Kd.R_slice HO171.out; subst eo60) | ((with_reducible refine gate_callee (f := 20) rfl ?_); refine goesL_ (some 63) rfl rfl Try.func20 (by kernel_rfl) rfl #[.slice Ao59 t166.length co59, .slice Ao60 y169.length co60] rfl (by (try simp only [List.map_toArray, List.map_cons, List.map_nil]); first | done | rfl | (simp only [List.length_drop, List.length_take]; rfl)) ?_; (with_reducible refine (examboardref13_SameInts.calls k _ _ t166 _ _ y169 true _ ?side1 ?side2 ?side3 ?side4 A16.out).mono ?_); (case side1 => repeat (first | exact (Kd.R_reads' HO168.out).2.2 | (with_reducible refine Kd.C_alloc ?_ _) | (with_reducible refine Kd.C_drewN ?_ _) | (with_reducible refine Kd.C_drew ?_))); (case side2 => exact (Kd.R_reads' HO168.out).2.1); (case side3 => repeat (first | exact (Kd.R_reads' HO171.out).2.2 | (with_reducible refine Kd.C_alloc ?_ _) | (with_reducible refine Kd.C_drewN ?_ _) | (with_reducible refine Kd.C_drew ?_))); (case side4 => exact (Kd.R_reads' HO171.out).2.1); rintro e w' ⟨rfl, ⟨nd, rfl⟩⟩; refine ⟨_, rfl, ?_⟩) | (go_at_call 18; (with_reducible refine (content_Count.calls k _ _ y160 (⟨#[77, 65, 84, 72]⟩ : ByteArray) t173 _ ?side1 ?side2 A18.out).mono ?_); (case side1 => repeat (first | exact (Kd.R_reads' HO162.out).2.2 | (with_reducible refine Kd.C_alloc ?_ _) | (with_reducible refine Kd.C_drewN ?_ _) | (with_reducible refine Kd.C_drew ?_))); (case side2 => exact (Kd.R_reads' HO162.out).2.1); rintro e w' ⟨rfl, ⟨nd, rfl⟩⟩) | ((with_reducible refine gate_callee (f := 8) rfl ?_); refine goesL_ (some 71) rfl rfl Try.func8 (by kernel_rfl) rfl #[.string (⟨#[77, 65, 84, 72, 46, 65, 76, 71]⟩ : ByteArray)] rfl (by (try simp only [List.map_toArray, List.map_cons, List.map_nil]); first | done | rfl | (simp only [List.length_drop, List.length_take]; rfl)) ?_; (with_reducible refine (content_Parent.calls k (⟨#[77, 65, 84, 72, 46, 65, 76, 71]⟩ : ByteArray) t174 true _ A20.out).mono ?_); rintro e w' ⟨rfl, ⟨nd, rfl⟩⟩; refine ⟨_, rfl, ?_⟩) | ((with_reducible refine gate_callee (f := 8) rfl ?_); refine goesL_ (some 75) rfl rfl Try.func8 (by kernel_rfl) rfl #[.string (⟨#[77, 65, 84, 72]⟩ : ByteArray)] rfl (by (try simp only [List.map_toArray, List.map_cons, List.map_nil]); first | done | rfl | (simp only [List.length_drop, List.length_take]; rfl)) ?_; (with_reducible refine (content_Parent.calls k (⟨#[77, 65, 84, 72]⟩ : ByteArray) t176 false _ A21.out).mono ?_); rintro e w' ⟨rfl, ⟨nd, rfl⟩⟩; refine ⟨_, rfl, ?_⟩) | (go_at_call 12; (with_reducible refine (content_Under.calls (⟨#[65, 46, 66]⟩ : ByteArray) (⟨#[65]⟩ : ByteArray) true _ A25.out).mono ?_); rintro e w' ⟨rfl, ⟨nd, rfl⟩⟩) | (go_at_call 12; (with_reducible refine (content_Under.calls (⟨#[65, 66]⟩ : ByteArray) (⟨#[65]⟩ : ByteArray) false _ A27.out).mono ?_); rintro e w' ⟨rfl, ⟨nd, rfl⟩⟩) | (go_at_call 10; (with_reducible refine (Hand.content_Valid.calls k (⟨#[65, 46, 66, 50]⟩ : ByteArray) true _ A29.out).mono ?_); rintro e w61 ⟨rfl, hb⟩; have n0_ := Aside0.mk (Kd.R_below (by (with_reducible repeat (first | apply Kd.R_alloc | apply Kd.R_drewN | apply Kd.R_drew)); exact HO137.out) hb); have n1_ := Aside0.mk (Kd.R_below (by (with_reducible repeat (first | apply Kd.R_alloc | apply Kd.R_drewN | apply Kd.R_drew)); exact HO148.out) hb); have n2_ := Aside0.mk (Kd.R_below (by (with_reducible repeat (first | apply Kd.R_alloc | apply Kd.R_drewN | apply Kd.R_drew)); exact HO151.out) hb); have n3_ := Aside0.mk (Kd.R_below (by (with_reducible repeat (first | apply Kd.R_alloc | apply Kd.R_drewN | apply Kd.R_drew)); exact HO155.out) hb); have n4_ := Aside0.mk (Kd.R_below (by (with_reducible repeat (first | apply Kd.R_alloc | apply Kd.R_drewN | apply Kd.R_drew)); exact HO158.out) hb); have n5_ := Aside0.mk (Kd.R_below (by (with_reducible repeat (first | apply Kd.R_alloc | apply Kd.R_drewN | apply Kd.R_drew)); exact HO162.out) hb); have n6_ := Aside0.mk (Kd.R_below (by (with_reducible repeat (first | apply Kd.R_alloc | apply Kd.R_drewN | apply Kd.R_drew)); exact HO165.out) hb); have n7_ := Aside0.mk (Kd.R_below (by (with_reducible repeat (first | apply Kd.R_alloc | apply Kd.R_drewN | apply Kd.R_drew)); exact HO168.out) hb); have n8_ := Aside0.mk (Kd.R_below (by (with_reducible repeat (first | apply Kd.R_alloc | apply Kd.R_drewN | apply Kd.R_drew)); exact HO171.out) hb); have n9_ := Aside0.mk (Kd.C_below (by repeat (first | (with_reducible exact HR143.out) | (with_reducible refine Kd.C_alloc ?_ _) | (with_reducible refine Kd.C_drewN ?_ _) | (with_reducible refine Kd.C_drew ?_) | exact HR143.out)) hb); have n10_ := Aside0.mk (below_step (by repeat (first | (with_reducible first | exact HB.out | apply below_alloc | apply pw_below_drewN | apply below_drew1) | exact HB.out)) hb); clear HO137; clear HO148; clear HO151; clear HO155; clear HO158; clear HO162; clear HO165; clear HO168; clear HO171; clear HR143; clear HB; have HO137 := n0_; have HO148 := n1_; have HO151 := n2_; have HO155 := n3_; have HO158 := n4_; have HO162 := n5_; have HO165 := n6_; have HO168 := n7_; have HO171 := n8_; have HR143 := n9_; have HB := n10_; clear n0_ n1_ n2_ n3_ n4_ n5_ n6_ n7_ n8_ n9_ n10_; (try clear hb); (try clear hb2); (try clear hk); (try clear hi)) | (go_at_call 10; (with_reducible refine (Hand.content_Valid.calls k (⟨#[65, 46, 46, 66]⟩ : ByteArray) false _ A31.out).mono ?_); rintro e w62 ⟨rfl, hb⟩; have n0_ := Aside0.mk (Kd.R_below (by (with_reducible repeat (first | apply Kd.R_alloc | apply Kd.R_drewN | apply Kd.R_drew)); exact HO137.out) hb); have n1_ := Aside0.mk (Kd.R_below (by (with_reducible repeat (first | apply Kd.R_alloc | apply Kd.R_drewN | apply Kd.R_drew)); exact HO148.out) hb); have n2_ := Aside0.mk (Kd.R_below (by (with_reducible repeat (first | apply Kd.R_alloc | apply Kd.R_drewN | apply Kd.R_drew)); exact HO151.out) hb); have n3_ := Aside0.mk (Kd.R_below (by (with_reducible repeat (first | apply Kd.R_alloc | apply Kd.R_drewN | apply Kd.R_drew)); exact HO155.out) hb); have n4_ := Aside0.mk (Kd.R_below (by (with_reducible repeat (first | apply Kd.R_alloc | apply Kd.R_drewN | apply Kd.R_drew)); exact HO158.out) hb); have n5_ := Aside0.mk (Kd.R_below (by (with_reducible repeat (first | apply Kd.R_alloc | apply Kd.R_drewN | apply Kd.R_drew)); exact HO162.out) hb); have n6_ := Aside0.mk (Kd.R_below (by (with_reducible repeat (first | apply Kd.R_alloc | apply Kd.R_drewN | apply Kd.R_drew)); exact HO165.out) hb); have n7_ := Aside0.mk (Kd.R_below (by (with_reducible repeat (first | apply Kd.R_alloc | apply Kd.R_drewN | apply Kd.R_drew)); exact HO168.out) hb); have n8_ := Aside0.mk (Kd.R_below (by (with_reducible repeat (first | apply Kd.R_alloc | apply Kd.R_drewN | apply Kd.R_drew)); exact HO171.out) hb); have n9_ := Aside0.mk (Kd.C_below (by repeat (first | (with_reducible exact HR143.out) | (with_reducible refine Kd.C_alloc ?_ _) | (with_reducible refine Kd.C_drewN ?_ _) | (with_reducible refine Kd.C_drew ?_) | exact HR143.out)) hb); have n10_ := Aside0.mk (below_step (by repeat (first | (with_reducible first | exact HB.out | apply below_alloc | apply pw_below_drewN | apply below_drew1) | exact HB.out)) hb); clear HO137; clear HO148; clear HO151; clear HO155; clear HO158; clear HO162; clear HO165; clear HO168; clear HO171; clear HR143; clear HB; have HO137 := n0_; have HO148 := n1_; have HO151 := n2_; have HO155 := n3_; have HO158 := n4_; have HO162 := n5_; have HO165 := n6_; have HO168 := n7_; have HO171 := n8_; have HR143 := n9_; have HB := n10_; clear n0_ n1_ n2_ n3_ n4_ n5_ n6_ n7_ n8_ n9_ n10_; (try clear hb); (try clear hb2); (try clear hk); (try clear hi)) | (go_at_call 10; (with_reducible refine (Hand.content_Valid.calls k (⟨#[97]⟩ : ByteArray) t182 _ A33.out).mono ?_); rintro e w63 ⟨rfl, hb⟩; have n0_ := Aside0.mk (Kd.R_below (by (with_reducible repeat (first | apply Kd.R_alloc | apply Kd.R_drewN | apply Kd.R_drew)); exact HO137.out) hb); have n1_ := Aside0.mk (Kd.R_below (by (with_reducible repeat (first | apply Kd.R_alloc | apply Kd.R_drewN | apply Kd.R_drew)); exact HO148.out) hb); have n2_ := Aside0.mk (Kd.R_below (by (with_reducible repeat (first | apply Kd.R_alloc | apply Kd.R_drewN | apply Kd.R_drew)); exact HO151.out) hb); have n3_ := Aside0.mk (Kd.R_below (by (with_reducible repeat (first | apply Kd.R_alloc | apply Kd.R_drewN | apply Kd.R_drew)); exact HO155.out) hb); have n4_ := Aside0.mk (Kd.R_below (by (with_reducible repeat (first | apply Kd.R_alloc | apply Kd.R_drewN | apply Kd.R_drew)); exact HO158.out) hb); have n5_ := Aside0.mk (Kd.R_below (by (with_reducible repeat (first | apply Kd.R_alloc | apply Kd.R_drewN | apply Kd.R_drew)); exact HO162.out) hb); have n6_ := Aside0.mk (Kd.R_below (by (with_reducible repeat (first | apply Kd.R_alloc | apply Kd.R_drewN | apply Kd.R_drew)); exact HO165.out) hb); have n7_ := Aside0.mk (Kd.R_below (by (with_reducible repeat (first | apply Kd.R_alloc | apply Kd.R_drewN | apply Kd.R_drew)); exact HO168.out) hb); have n8_ := Aside0.mk (Kd.R_below (by (with_reducible repeat (first | apply Kd.R_alloc | apply Kd.R_drewN | apply Kd.R_drew)); exact HO171.out) hb); have n9_ := Aside0.mk (Kd.C_below (by repeat (first | (with_reducible exact HR143.out) | (with_reducible refine Kd.C_alloc ?_ _) | (with_reducible refine Kd.C_drewN ?_ _) | (with_reducible refine Kd.C_drew ?_) | exact HR143.out)) hb); have n10_ := Aside0.mk (below_step (by repeat (first | (with_reducible first | exact HB.out | apply below_alloc | apply pw_below_drewN | apply below_drew1) | exact HB.out)) hb); clear HO137; clear HO148; clear HO151; clear HO155; clear HO158; clear HO162; clear HO165; clear HO168; clear HO171; clear HR143; clear HB; have HO137 := n0_; have HO148 := n1_; have HO151 := n2_; have HO155 := n3_; have HO158 := n4_; have HO162 := n5_; have HO165 := n6_; have HO168 := n7_; have HO171 := n8_; have HR143 := n9_; have HB := n10_; clear n0_ n1_ n2_ n3_ n4_ n5_ n6_ n7_ n8_ n9_ n10_; (try clear hb); (try clear hb2); (try clear hk); (try clear hi)))
                                    go_ret
                                    exact ⟨by first | rfl | (simp [errW_none, errW_some] <;> rfl) | (simp [*, errW_none, errW_some] <;> rfl), by repeat (first | (with_reducible first | exact HB.out | apply below_alloc | apply pw_below_drewN | apply below_drew1) | exact HB.out)⟩
                                · replace c30 := Bool.eq_false_iff.mpr c30
                                  subst c30
                                  have H1 : (none) = some r := by rw [if_neg (show ¬ (false = true) by decide)] at H; exact H
                                  clear H
                                  have H := H1
                                  clear H1
                                  exact absurd H (by simp)
                            · replace c26 := Bool.eq_false_iff.mpr c26
                              subst c26
                              have H1 : (none) = some r := by rw [if_neg (show ¬ (false = true) by decide)] at H; exact H
                              clear H
                              have H := H1
                              clear H1
                              exact absurd H (by simp)
                          · rw [if_neg c24] at H
                            exact absurd H (by simp)
                      · replace c22 := Bool.eq_false_iff.mpr c22
                        subst c22
                        have H1 : (none) = some r := by rw [if_neg (show ¬ (false = true) by decide)] at H; exact H
                        clear H
                        have H := H1
                        clear H1
                        exact absurd H (by simp)
                    · rw [if_neg c19] at H
                      exact absurd H (by simp)
                  · replace c17 := Bool.eq_false_iff.mpr c17
                    subst c17
                    have H1 : (none) = some r := by rw [if_neg (show ¬ (false = true) by decide)] at H; exact H
                    clear H
                    have H := H1
                    clear H1
                    exact absurd H (by simp)
                · replace c14 := Bool.eq_false_iff.mpr c14
                  subst c14
                  have H1 : (none) = some r := by rw [if_neg (show ¬ (false = true) by decide)] at H; exact H
                  clear H
                  have H := H1
                  clear H1
                  exact absurd H (by simp)
              · replace c11 := Bool.eq_false_iff.mpr c11
                subst c11
                have H1 : (none) = some r := by rw [if_neg (show ¬ (false = true) by decide)] at H; exact H
                clear H
                have H := H1
                clear H1
                exact absurd H (by simp)
            · rw [if_neg c8] at H
              exact absurd H (by simp)
          · rw [if_neg c7] at H
            exact absurd H (by simp)
        · rw [if_neg c6] at H
          exact absurd H (by simp)
      · rw [if_neg c5] at H
        exact absurd H (by simp)
    · rw [if_neg c3] at H
      exact absurd H (by simp)
  · rw [if_neg c2] at H
    exact absurd H (by simp)

/-! ### examboardlaw13_ContentCodes: function 3 -/
def examboardlaw13_ContentCodes.f (k : Nat) (a0 : ByteArray) (a1 : ByteArray) : Option (Bool) := (content_Parent.f k a0).bind fun bt183 => ((examboardref13_Parent.f k a0).bind fun bt185 => (if bt183.1.toList = bt185.1.toList then (if (bt183.2 == bt185.2) = true then ((Hand.content_Valid.f k a0).bind fun t187 => ((examboardref13_Valid.f k a0).bind fun t188 => (if (t187 == t188) = true then ((content_Under.f a0 a1).bind fun t189 => ((examboardref13_Under.f a0 a1).bind fun t190 => (if (t189 == t190) = true then ((examboardlaw13_awake.f k).bind fun t191 => (some t191)) else (some false)))) else (some false)))) else (some false)) else (some false)))
theorem examboardlaw13_ContentCodes.mono : ∀ a0 a1 k, LeO (examboardlaw13_ContentCodes.f k a0 a1) (examboardlaw13_ContentCodes.f (k + 1) a0 a1) := by
  intro a0 a1 k
  unfold examboardlaw13_ContentCodes.f
  repeat' first
      | (with_reducible exact Hand.content_Valid.mono _ _)
      | (with_reducible exact content_Parent.mono _ _)
      | (with_reducible exact examboardlaw13_awake.mono _)
      | (with_reducible exact examboardref13_Parent.mono _ _)
      | (with_reducible exact examboardref13_Valid.mono _ _)
      | (with_reducible exact LeO.refl _)
      | (with_reducible exact LeO.none _)
      | (with_reducible refine LeO.ite ?_ ?_)
      | (with_reducible refine LeO.bind ?_ (fun _ => ?_))
      | exact Hand.content_Valid.mono _ _
      | exact content_Parent.mono _ _
      | exact examboardlaw13_awake.mono _
      | exact examboardref13_Parent.mono _ _
      | exact examboardref13_Valid.mono _ _
      | exact LeO.none _
      | refine LeO.ite ?_ ?_
      | refine LeO.bind ?_ (fun _ => ?_)
set_option maxHeartbeats 8000000 in
set_option maxRecDepth 100000 in
theorem examboardlaw13_ContentCodes.calls (k : Nat) (a0 : ByteArray) (a1 : ByteArray) (r : Bool) (w : World) (h : examboardlaw13_ContentCodes.f k a0 a1 = some r) :
    Calls Try.prog 3 #[.string a0, .string a1] w fun e w' => e = .returned (.bool r) ∧ Below w.heap.size w w' := by
  have HB := Aside0.mk (Below.refl w.heap.size w)
  have H : ((content_Parent.f k a0).bind fun bt183 => ((examboardref13_Parent.f k a0).bind fun bt185 => (if bt183.1.toList = bt185.1.toList then (if (bt183.2 == bt185.2) = true then ((Hand.content_Valid.f k a0).bind fun t187 => ((examboardref13_Valid.f k a0).bind fun t188 => (if (t187 == t188) = true then ((content_Under.f a0 a1).bind fun t189 => ((examboardref13_Under.f a0 a1).bind fun t190 => (if (t189 == t190) = true then ((examboardlaw13_awake.f k).bind fun t191 => (some t191)) else (some false)))) else (some false)))) else (some false)) else (some false)))) = some r := h
  clear h
  replace H := Option.bind_eq_some_iff.mp H
  obtain ⟨⟨t183, t184⟩, A30, H⟩ := H
  replace H : ((examboardref13_Parent.f k a0).bind fun bt185 => (if t183.toList = bt185.1.toList then (if (t184 == bt185.2) = true then ((Hand.content_Valid.f k a0).bind fun t187 => ((examboardref13_Valid.f k a0).bind fun t188 => (if (t187 == t188) = true then ((content_Under.f a0 a1).bind fun t189 => ((examboardref13_Under.f a0 a1).bind fun t190 => (if (t189 == t190) = true then ((examboardlaw13_awake.f k).bind fun t191 => (some t191)) else (some false)))) else (some false)))) else (some false)) else (some false))) = some r := H
  have A3 := Aside0.mk A30
  clear A30
  replace H := Option.bind_eq_some_iff.mp H
  obtain ⟨⟨t185, t186⟩, A40, H⟩ := H
  replace H : (if t183.toList = t185.toList then (if (t184 == t186) = true then ((Hand.content_Valid.f k a0).bind fun t187 => ((examboardref13_Valid.f k a0).bind fun t188 => (if (t187 == t188) = true then ((content_Under.f a0 a1).bind fun t189 => ((examboardref13_Under.f a0 a1).bind fun t190 => (if (t189 == t190) = true then ((examboardlaw13_awake.f k).bind fun t191 => (some t191)) else (some false)))) else (some false)))) else (some false)) else (some false)) = some r := H
  have A4 := Aside0.mk A40
  clear A40
  by_cases c5 : t183.toList = t185.toList
  · rw [if_pos c5] at H
    have c5b0 : (t183.toList == t185.toList) = true := beq_iff_eq.mpr c5
    have c5b1 : (t183.toList != t185.toList) = false := bne_eq_false_iff_eq.mpr c5
    clear c5
    by_cases c6 : (t184 == t186) = true
    · rw [if_pos c6] at H
      have c6b0 : (t184 == t186) = true := c6
      (try (have c6b1 : decide (t184 = t186) = true := by simpa using c6))
      (try (have c6b2 : (t184 == t186) = true := by simpa using c6))
      clear c6
      replace H := Option.bind_eq_some_iff.mp H
      obtain ⟨t187, A70, H⟩ := H
      replace H : ((examboardref13_Valid.f k a0).bind fun t188 => (if (t187 == t188) = true then ((content_Under.f a0 a1).bind fun t189 => ((examboardref13_Under.f a0 a1).bind fun t190 => (if (t189 == t190) = true then ((examboardlaw13_awake.f k).bind fun t191 => (some t191)) else (some false)))) else (some false))) = some r := H
      have A7 := Aside0.mk A70
      clear A70
      replace H := Option.bind_eq_some_iff.mp H
      obtain ⟨t188, A80, H⟩ := H
      replace H : (if (t187 == t188) = true then ((content_Under.f a0 a1).bind fun t189 => ((examboardref13_Under.f a0 a1).bind fun t190 => (if (t189 == t190) = true then ((examboardlaw13_awake.f k).bind fun t191 => (some t191)) else (some false)))) else (some false)) = some r := H
      have A8 := Aside0.mk A80
      clear A80
      by_cases c9 : (t187 == t188) = true
      · rw [if_pos c9] at H
        have c9b0 : (t187 == t188) = true := c9
        (try (have c9b1 : decide (t187 = t188) = true := by simpa using c9))
        (try (have c9b2 : (t187 == t188) = true := by simpa using c9))
        clear c9
        replace H := Option.bind_eq_some_iff.mp H
        obtain ⟨t189, A100, H⟩ := H
        replace H : ((examboardref13_Under.f a0 a1).bind fun t190 => (if (t189 == t190) = true then ((examboardlaw13_awake.f k).bind fun t191 => (some t191)) else (some false))) = some r := H
        have A10 := Aside0.mk A100
        clear A100
        replace H := Option.bind_eq_some_iff.mp H
        obtain ⟨t190, A110, H⟩ := H
        replace H : (if (t189 == t190) = true then ((examboardlaw13_awake.f k).bind fun t191 => (some t191)) else (some false)) = some r := H
        have A11 := Aside0.mk A110
        clear A110
        by_cases c12 : (t189 == t190) = true
        · rw [if_pos c12] at H
          have c12b0 : (t189 == t190) = true := c12
          (try (have c12b1 : decide (t189 = t190) = true := by simpa using c12))
          (try (have c12b2 : (t189 == t190) = true := by simpa using c12))
          clear c12
          replace H := Option.bind_eq_some_iff.mp H
          obtain ⟨t191, A130, H⟩ := H
          replace H : (some t191) = some r := H
          have A13 := Aside0.mk A130
          clear A130
          obtain rfl := Option.some.inj H
          go_enter Try.func3, Try.ntmps3
          go_wp2_with (first | ((with_reducible refine gate_callee (f := 8) rfl ?_); refine goesL_ (some 11) rfl rfl Try.func8 (by kernel_rfl) rfl #[.string a0] rfl (by (try simp only [List.map_toArray, List.map_cons, List.map_nil]); first | done | rfl | (simp only [List.length_drop, List.length_take]; rfl)) ?_; (with_reducible refine (content_Parent.calls k a0 t183 t184 _ A3.out).mono ?_); rintro e w' ⟨rfl, ⟨nd, rfl⟩⟩; refine ⟨_, rfl, ?_⟩) | ((with_reducible refine gate_callee (f := 9) rfl ?_); refine goesL_ (some 16) rfl rfl Try.func9 (by kernel_rfl) rfl #[.string a0] rfl (by (try simp only [List.map_toArray, List.map_cons, List.map_nil]); first | done | rfl | (simp only [List.length_drop, List.length_take]; rfl)) ?_; (with_reducible refine (examboardref13_Parent.calls k a0 t185 t186 _ A4.out).mono ?_); rintro e w' ⟨rfl, ⟨nd, rfl⟩⟩; refine ⟨_, rfl, ?_⟩) | (go_at_call 10; (with_reducible refine (Hand.content_Valid.calls k a0 t187 _ A7.out).mono ?_); rintro e w14 ⟨rfl, hb⟩; have n0_ := Aside0.mk (below_step (by repeat (first | (with_reducible first | exact HB.out | apply below_alloc | apply pw_below_drewN | apply below_drew1) | exact HB.out)) hb); clear HB; have HB := n0_; clear n0_; (try clear hb); (try clear hb2); (try clear hk); (try clear hi)) | (go_at_call 11; (with_reducible refine (examboardref13_Valid.calls k a0 t188 _ A8.out).mono ?_); rintro e w' ⟨rfl, ⟨nd, rfl⟩⟩) | (go_at_call 12; (with_reducible refine (content_Under.calls a0 a1 t189 _ A10.out).mono ?_); rintro e w' ⟨rfl, ⟨nd, rfl⟩⟩) | (go_at_call 13; (with_reducible refine (examboardref13_Under.calls a0 a1 t190 _ A11.out).mono ?_); rintro e w' ⟨rfl, ⟨nd, rfl⟩⟩) | (go_at_call 14; (with_reducible refine (examboardlaw13_awake.calls k  t191 _ A13.out).mono ?_); rintro e w15 ⟨rfl, hb⟩; have n0_ := Aside0.mk (below_step (by repeat (first | (with_reducible first | exact HB.out | apply below_alloc | apply pw_below_drewN | apply below_drew1) | exact HB.out)) hb); clear HB; have HB := n0_; clear n0_; (try clear hb); (try clear hb2); (try clear hk); (try clear hi)))
          go_ret
          exact ⟨by first | rfl | (simp [errW_none, errW_some] <;> rfl) | (simp [*, errW_none, errW_some] <;> rfl), by repeat (first | (with_reducible first | exact HB.out | apply below_alloc | apply pw_below_drewN | apply below_drew1) | exact HB.out)⟩
        · rw [if_neg c12] at H
          have c12b0 : (t189 == t190) = false := by simpa using c12
          (try (have c12b1 : decide (t189 = t190) = false := by simpa using c12))
          (try (have c12b2 : (t189 == t190) = false := by simpa using c12))
          (try (have c12b3 : ¬ (t189 = t190) := by simpa using c12))
          clear c12
          obtain rfl := Option.some.inj H
          go_enter Try.func3, Try.ntmps3
          go_wp2_with (first | ((with_reducible refine gate_callee (f := 8) rfl ?_); refine goesL_ (some 11) rfl rfl Try.func8 (by kernel_rfl) rfl #[.string a0] rfl (by (try simp only [List.map_toArray, List.map_cons, List.map_nil]); first | done | rfl | (simp only [List.length_drop, List.length_take]; rfl)) ?_; (with_reducible refine (content_Parent.calls k a0 t183 t184 _ A3.out).mono ?_); rintro e w' ⟨rfl, ⟨nd, rfl⟩⟩; refine ⟨_, rfl, ?_⟩) | ((with_reducible refine gate_callee (f := 9) rfl ?_); refine goesL_ (some 16) rfl rfl Try.func9 (by kernel_rfl) rfl #[.string a0] rfl (by (try simp only [List.map_toArray, List.map_cons, List.map_nil]); first | done | rfl | (simp only [List.length_drop, List.length_take]; rfl)) ?_; (with_reducible refine (examboardref13_Parent.calls k a0 t185 t186 _ A4.out).mono ?_); rintro e w' ⟨rfl, ⟨nd, rfl⟩⟩; refine ⟨_, rfl, ?_⟩) | (go_at_call 10; (with_reducible refine (Hand.content_Valid.calls k a0 t187 _ A7.out).mono ?_); rintro e w16 ⟨rfl, hb⟩; have n0_ := Aside0.mk (below_step (by repeat (first | (with_reducible first | exact HB.out | apply below_alloc | apply pw_below_drewN | apply below_drew1) | exact HB.out)) hb); clear HB; have HB := n0_; clear n0_; (try clear hb); (try clear hb2); (try clear hk); (try clear hi)) | (go_at_call 11; (with_reducible refine (examboardref13_Valid.calls k a0 t188 _ A8.out).mono ?_); rintro e w' ⟨rfl, ⟨nd, rfl⟩⟩) | (go_at_call 12; (with_reducible refine (content_Under.calls a0 a1 t189 _ A10.out).mono ?_); rintro e w' ⟨rfl, ⟨nd, rfl⟩⟩) | (go_at_call 13; (with_reducible refine (examboardref13_Under.calls a0 a1 t190 _ A11.out).mono ?_); rintro e w' ⟨rfl, ⟨nd, rfl⟩⟩))
          go_ret
          exact ⟨by first | rfl | (simp [errW_none, errW_some] <;> rfl) | (simp [*, errW_none, errW_some] <;> rfl), by repeat (first | (with_reducible first | exact HB.out | apply below_alloc | apply pw_below_drewN | apply below_drew1) | exact HB.out)⟩
      · rw [if_neg c9] at H
        have c9b0 : (t187 == t188) = false := by simpa using c9
        (try (have c9b1 : decide (t187 = t188) = false := by simpa using c9))
        (try (have c9b2 : (t187 == t188) = false := by simpa using c9))
        (try (have c9b3 : ¬ (t187 = t188) := by simpa using c9))
        clear c9
        obtain rfl := Option.some.inj H
        go_enter Try.func3, Try.ntmps3
        go_wp2_with (first | ((with_reducible refine gate_callee (f := 8) rfl ?_); refine goesL_ (some 11) rfl rfl Try.func8 (by kernel_rfl) rfl #[.string a0] rfl (by (try simp only [List.map_toArray, List.map_cons, List.map_nil]); first | done | rfl | (simp only [List.length_drop, List.length_take]; rfl)) ?_; (with_reducible refine (content_Parent.calls k a0 t183 t184 _ A3.out).mono ?_); rintro e w' ⟨rfl, ⟨nd, rfl⟩⟩; refine ⟨_, rfl, ?_⟩) | ((with_reducible refine gate_callee (f := 9) rfl ?_); refine goesL_ (some 16) rfl rfl Try.func9 (by kernel_rfl) rfl #[.string a0] rfl (by (try simp only [List.map_toArray, List.map_cons, List.map_nil]); first | done | rfl | (simp only [List.length_drop, List.length_take]; rfl)) ?_; (with_reducible refine (examboardref13_Parent.calls k a0 t185 t186 _ A4.out).mono ?_); rintro e w' ⟨rfl, ⟨nd, rfl⟩⟩; refine ⟨_, rfl, ?_⟩) | (go_at_call 10; (with_reducible refine (Hand.content_Valid.calls k a0 t187 _ A7.out).mono ?_); rintro e w17 ⟨rfl, hb⟩; have n0_ := Aside0.mk (below_step (by repeat (first | (with_reducible first | exact HB.out | apply below_alloc | apply pw_below_drewN | apply below_drew1) | exact HB.out)) hb); clear HB; have HB := n0_; clear n0_; (try clear hb); (try clear hb2); (try clear hk); (try clear hi)) | (go_at_call 11; (with_reducible refine (examboardref13_Valid.calls k a0 t188 _ A8.out).mono ?_); rintro e w' ⟨rfl, ⟨nd, rfl⟩⟩))
        go_ret
        exact ⟨by first | rfl | (simp [errW_none, errW_some] <;> rfl) | (simp [*, errW_none, errW_some] <;> rfl), by repeat (first | (with_reducible first | exact HB.out | apply below_alloc | apply pw_below_drewN | apply below_drew1) | exact HB.out)⟩
    · rw [if_neg c6] at H
      have c6b0 : (t184 == t186) = false := by simpa using c6
      (try (have c6b1 : decide (t184 = t186) = false := by simpa using c6))
      (try (have c6b2 : (t184 == t186) = false := by simpa using c6))
      (try (have c6b3 : ¬ (t184 = t186) := by simpa using c6))
      clear c6
      obtain rfl := Option.some.inj H
      go_enter Try.func3, Try.ntmps3
      go_wp2_with (first | ((with_reducible refine gate_callee (f := 8) rfl ?_); refine goesL_ (some 11) rfl rfl Try.func8 (by kernel_rfl) rfl #[.string a0] rfl (by (try simp only [List.map_toArray, List.map_cons, List.map_nil]); first | done | rfl | (simp only [List.length_drop, List.length_take]; rfl)) ?_; (with_reducible refine (content_Parent.calls k a0 t183 t184 _ A3.out).mono ?_); rintro e w' ⟨rfl, ⟨nd, rfl⟩⟩; refine ⟨_, rfl, ?_⟩) | ((with_reducible refine gate_callee (f := 9) rfl ?_); refine goesL_ (some 16) rfl rfl Try.func9 (by kernel_rfl) rfl #[.string a0] rfl (by (try simp only [List.map_toArray, List.map_cons, List.map_nil]); first | done | rfl | (simp only [List.length_drop, List.length_take]; rfl)) ?_; (with_reducible refine (examboardref13_Parent.calls k a0 t185 t186 _ A4.out).mono ?_); rintro e w' ⟨rfl, ⟨nd, rfl⟩⟩; refine ⟨_, rfl, ?_⟩))
      go_ret
      exact ⟨by first | rfl | (simp [errW_none, errW_some] <;> rfl) | (simp [*, errW_none, errW_some] <;> rfl), by repeat (first | (with_reducible first | exact HB.out | apply below_alloc | apply pw_below_drewN | apply below_drew1) | exact HB.out)⟩
  · rw [if_neg c5] at H
    have c5b0 : (t183.toList == t185.toList) = false := beq_eq_false_iff_ne.mpr c5
    have c5b1 : (t183.toList != t185.toList) = true := bne_iff_ne.mpr c5
    obtain rfl := Option.some.inj H
    go_enter Try.func3, Try.ntmps3
    go_wp2_with (first | ((with_reducible refine gate_callee (f := 8) rfl ?_); refine goesL_ (some 11) rfl rfl Try.func8 (by kernel_rfl) rfl #[.string a0] rfl (by (try simp only [List.map_toArray, List.map_cons, List.map_nil]); first | done | rfl | (simp only [List.length_drop, List.length_take]; rfl)) ?_; (with_reducible refine (content_Parent.calls k a0 t183 t184 _ A3.out).mono ?_); rintro e w' ⟨rfl, ⟨nd, rfl⟩⟩; refine ⟨_, rfl, ?_⟩) | ((with_reducible refine gate_callee (f := 9) rfl ?_); refine goesL_ (some 16) rfl rfl Try.func9 (by kernel_rfl) rfl #[.string a0] rfl (by (try simp only [List.map_toArray, List.map_cons, List.map_nil]); first | done | rfl | (simp only [List.length_drop, List.length_take]; rfl)) ?_; (with_reducible refine (examboardref13_Parent.calls k a0 t185 t186 _ A4.out).mono ?_); rintro e w' ⟨rfl, ⟨nd, rfl⟩⟩; refine ⟨_, rfl, ?_⟩))
    go_ret
    exact ⟨by first | rfl | (simp [errW_none, errW_some] <;> rfl) | (simp [*, errW_none, errW_some] <;> rfl), by repeat (first | (with_reducible first | exact HB.out | apply below_alloc | apply pw_below_drewN | apply below_drew1) | exact HB.out)⟩

/-- THE ONE PURE STATEMENT of examboardlaw13_ContentCodes: yours. -/
def examboardlaw13_ContentCodes.Pure : Prop := ∀ (a0 : ByteArray) (a1 : ByteArray), a0.size ≤ 140737488351232 → a1.size ≤ 140737488351232 → ∃ k, examboardlaw13_ContentCodes.f k a0 a1 = some true
theorem examboardlaw13_ContentCodes.walk (P : examboardlaw13_ContentCodes.Pure) (a0 : ByteArray) (a1 : ByteArray) (w : World) (w0 : a0.size ≤ 140737488351232) (w1 : a1.size ≤ 140737488351232) :
    Calls Try.prog 3 #[.string a0, .string a1] w fun e w' => e = .returned (.bool true) ∧ Below w.heap.size w w' := by
  obtain ⟨k, h⟩ := P a0 a1 w0 w1
  refine (examboardlaw13_ContentCodes.calls k a0 a1 true w h).mono ?_
  rintro e w' ⟨rfl, hd⟩
  exact ⟨rfl, hd⟩

/-! ### examboardref13_Kids: function 17 -/
def examboardref13_Kids.l0 : Nat → List (S42) → ByteArray → List ByteArray → Int → Option (List ByteArray)
  | 0, _, _, _, _ => none
  | k + 1, x0, x1, x5, x6 => if x6 < (x0.length : Int) then (if 0 ≤ x6 then ((examboardref13_Parent.f k ((rd_T42 x0 x6).f0)).bind fun bt196 => (if bt196.1.toList = x1.toList then (if x5.length < 8796093022208 then (examboardref13_Kids.l0 k x0 x1 (x5 ++ [(rd_T42 x0 x6).f0]) (wrap64 (x6 + 1))) else (none)) else (examboardref13_Kids.l0 k x0 x1 x5 (wrap64 (x6 + 1))))) else (none)) else (some x5)
def examboardref13_Kids.f (k : Nat) (l0 : List (S42)) (a1 : ByteArray) : Option (List ByteArray) := examboardref13_Kids.l0 k l0 a1 (([] : List ByteArray)) 0
theorem examboardref13_Kids.mono_l : ∀ k, (∀ y0 y1 y2 y3, LeO (examboardref13_Kids.l0 k y0 y1 y2 y3) (examboardref13_Kids.l0 (k + 1) y0 y1 y2 y3))
  | 0 => fun _ _ _ _ r h => by simp [examboardref13_Kids.l0] at h
  | k + 1 => by
    have ih0 := examboardref13_Kids.mono_l k
    · intro y0 y1 y2 y3
      unfold examboardref13_Kids.l0
      repeat' first
      | (with_reducible exact ih0 _ _ _ _)
      | (with_reducible exact examboardref13_Parent.mono _ _)
      | (with_reducible exact LeO.refl _)
      | (with_reducible exact LeO.none _)
      | (with_reducible refine LeO.ite ?_ ?_)
      | (with_reducible refine LeO.bind ?_ (fun _ => ?_))
      | exact ih0 _ _ _ _
      | exact examboardref13_Parent.mono _ _
      | exact LeO.none _
      | refine LeO.ite ?_ ?_
      | refine LeO.bind ?_ (fun _ => ?_)
theorem examboardref13_Kids.mono : ∀ a0 a1 k, LeO (examboardref13_Kids.f k a0 a1) (examboardref13_Kids.f (k + 1) a0 a1) := by
  intro a0 a1 k
  have ih0 := examboardref13_Kids.mono_l k
  unfold examboardref13_Kids.f
  repeat' first
      | (with_reducible exact ih0 _ _ _ _)
      | (with_reducible exact examboardref13_Parent.mono _ _)
      | (with_reducible exact LeO.refl _)
      | (with_reducible exact LeO.none _)
      | (with_reducible refine LeO.ite ?_ ?_)
      | (with_reducible refine LeO.bind ?_ (fun _ => ?_))
      | exact ih0 _ _ _ _
      | exact examboardref13_Parent.mono _ _
      | exact LeO.none _
      | refine LeO.ite ?_ ?_
      | refine LeO.bind ?_ (fun _ => ?_)
set_option maxHeartbeats 8000000 in
set_option maxRecDepth 100000 in
theorem examboardref13_Kids.calls (k : Nat) (A0 : Option Addr) (c0 : Nat) (l0 : List (S42)) (a1 : ByteArray) (r : List ByteArray) (w : World) (hr0 : Kd.C k42 w A0 l0.length l0) (hc0 : l0.length ≤ c0) (h : examboardref13_Kids.f k l0 a1 = some r) :
    Calls Try.prog 17 #[.slice A0 l0.length c0, .string a1] w fun e w' => ∃ v0_ : Value, e = .returned (v0_) ∧ Kd.R Kd.string 9 w' w.heap.size (fun _ => True) v0_ r ∧ Below w.heap.size w w' := by
  have HR0 := Aside0.mk hr0
  have HC0 := Aside0.mk hc0
  clear hr0 hc0
  have HB := Aside0.mk (Below.refl w.heap.size w)
  have H : (examboardref13_Kids.l0 k l0 a1 (([] : List ByteArray)) 0) = some r := h
  clear h
  obtain ⟨y192, hy192⟩ : ∃ y_ : List ByteArray, y_ = (([] : List ByteArray)) := ⟨_, rfl⟩
  replace H : (examboardref13_Kids.l0 k l0 a1 y192 0) = some r := by first | (rw [hy192]; with_reducible exact H) | (have H2_ := (Option.bind_some _ _).symm.trans H; rw [hy192]; with_reducible exact H2_) | (have H2_ := (Option.bind_some _ _).symm.trans H; with_reducible exact H2_) | with_reducible exact H | (rw [hy192]; exact H) | exact H
  have Ny192 := Aside0.mk hy192
  clear hy192
  have H' := Aside0.mk H
  clear H
  go_enter Try.func17, Try.ntmps17
  go_wp2_with (first | ((with_reducible refine gate_dst (N := 9) rfl ?_); refine Kd.R_lit Kd.string _ 9 ?hg (N := 9) ?hd (xs := ([] : List ByteArray)) (inner := []) (ok := fun _ => True) (okp := fun _ => True) ?hr ?hp (fun _ hk => hk) trivial (Below.refl _ _) (Nat.le_refl _) (by simp) ?_; (case hd => rfl); (case hg => rfl); (case hr => first | (go_simp; done) | (go_simp; rfl)); (case hp => exact (Reps.none _ _)); intro v193 w3 ho4 hb hg_ hnew_; clear hg_ hnew_; (first | rw [← Ny192.out] at ho4 | (simp only [Int.reduceToNat] at ho4; rw [← Ny192.out] at ho4)); have n0_ := Aside0.mk (Kd.R_lower ho4 (below_size (by repeat (first | (with_reducible first | exact HB.out | apply below_alloc | apply pw_below_drewN | apply below_drew1) | exact HB.out)))); have n1_ := Aside0.mk (below_step (by repeat (first | (with_reducible first | exact HB.out | apply below_alloc | apply pw_below_drewN | apply below_drew1) | exact HB.out)) hb); clear HB; have HO194 := n0_; have HB := n1_; clear n0_ n1_; clear hb ho4))
  go_loopg [5, 6] k (fun kq v5 v6 w' => ∃ (x5_1 : List ByteArray) (x6_1 : Int), v6 = .int .i64 x6_1 ∧ Aside0 (examboardref13_Kids.l0 kq l0 a1 x5_1 x6_1 = some r) ∧ Aside0 (kq ≤ k) ∧ Aside0 (Kd.R Kd.string 9 w' w.heap.size (fun _ => True) v5 x5_1) ∧ Aside0 (Below w.heap.size w w'))
  case atStart => exact ⟨(y192), (0), (by first | rfl | (simp; done) | (simp [*]; done)), H', ⟨Nat.le_refl _⟩, ⟨by (with_reducible repeat (first | apply Kd.R_alloc | apply Kd.R_drewN | apply Kd.R_drew)); exact HO194.out⟩, ⟨by repeat (first | (with_reducible first | exact HB.out | apply below_alloc | apply pw_below_drewN | apply below_drew1) | exact HB.out)⟩⟩
  case round =>
    clear H'
    try clear c1
    try clear p2
    obtain ⟨x5_1, x6_1, rfl, HA, HK1, HO_5, HB⟩ := hrel
    cases gk with
    | zero => exact absurd HA.out (by simp [examboardref13_Kids.l0])
    | succ k1 =>
      have H := HA.out
      clear HA
      simp only [examboardref13_Kids.l0] at H
      by_cases c5 : x6_1 < (l0.length : Int)
      · rw [if_pos c5] at H
        have c5b0 : decide (x6_1 < (l0.length : Int)) = true := decide_eq_true c5
        clear c5
        by_cases c6 : 0 ≤ x6_1
        · rw [if_pos c6] at H
          have c6b0 : decide (0 ≤ x6_1) = true := decide_eq_true c6
          clear c6
          replace H := Option.bind_eq_some_iff.mp H
          obtain ⟨⟨t196, t197⟩, A70, H⟩ := H
          replace H : (if t196.toList = a1.toList then (if x5_1.length < 8796093022208 then (examboardref13_Kids.l0 k1 l0 a1 (x5_1 ++ [(rd_T42 l0 x6_1).f0]) (wrap64 (x6_1 + 1))) else (none)) else (examboardref13_Kids.l0 k1 l0 a1 x5_1 (wrap64 (x6_1 + 1)))) = some r := H
          have A7 := Aside0.mk A70
          clear A70
          by_cases c8 : t196.toList = a1.toList
          · rw [if_pos c8] at H
            have c8b0 : (t196.toList == a1.toList) = true := beq_iff_eq.mpr c8
            have c8b1 : (t196.toList != a1.toList) = false := bne_eq_false_iff_eq.mpr c8
            clear c8
            by_cases c9 : x5_1.length < 8796093022208
            · rw [if_pos c9] at H
              have LMc9 := Aside0.mk c9
              clear c9
              obtain ⟨y199, hy199⟩ : ∃ y_ : List ByteArray, y_ = (x5_1 ++ [(rd_T42 l0 x6_1).f0]) := ⟨_, rfl⟩
              replace H : (examboardref13_Kids.l0 k1 l0 a1 y199 (wrap64 (x6_1 + 1))) = some r := by first | (rw [hy199]; with_reducible exact H) | (have H2_ := (Option.bind_some _ _).symm.trans H; rw [hy199]; with_reducible exact H2_) | (have H2_ := (Option.bind_some _ _).symm.trans H; with_reducible exact H2_) | with_reducible exact H | (rw [hy199]; exact H) | exact H
              have Ny199 := Aside0.mk hy199
              clear hy199
              have H' := Aside0.mk H
              clear H
              have p195 : 0 ≤ (x6_1 : Int) := of_decide_eq_true (by first | (with_reducible assumption) | assumption)
              have q195 : x6_1 < (l0.length : Int) := of_decide_eq_true (by first | (with_reducible assumption) | assumption)
              obtain ⟨ad195, e195, hx195_0, hx195_1⟩ := at_T42 HR0.out x6_1 p195 q195
              cases e195
              replace hx195_0 := (HB.out.cell (World.block_lt_of_cell? w _ hx195_0)).trans hx195_0
              replace hx195_1 := (HB.out.cell (World.block_lt_of_cell? w _ hx195_1)).trans hx195_1
              replace p195 := eq_true p195
              replace q195 := eq_true q195
              go_wp2_with (first | ((with_reducible refine gate_callee (f := 9) rfl ?_); refine goesL_ (some 22) rfl rfl Try.func9 (by kernel_rfl) rfl #[.string ((rd_T42 l0 x6_1).f0)] rfl (by (try simp only [List.map_toArray, List.map_cons, List.map_nil]); first | done | rfl | (simp only [List.length_drop, List.length_take]; rfl)) ?_; (with_reducible refine (examboardref13_Parent.calls k1 ((rd_T42 l0 x6_1).f0) t196 t197 _ A7.out).mono ?_); rintro e w' ⟨rfl, ⟨nd, rfl⟩⟩; refine ⟨_, rfl, ?_⟩; have p198 : 0 ≤ (x6_1 : Int) := of_decide_eq_true (by first | (with_reducible assumption) | assumption); have q198 : x6_1 < (l0.length : Int) := of_decide_eq_true (by first | (with_reducible assumption) | assumption); obtain ⟨ad198, e198, hx198_0, hx198_1⟩ := at_T42 HR0.out x6_1 p198 q198; obtain rfl : ad195 = ad198 := (by injection e198); replace hx198_0 := (HB.out.cell (World.block_lt_of_cell? w _ hx198_0)).trans hx198_0; replace hx198_1 := (HB.out.cell (World.block_lt_of_cell? w _ hx198_1)).trans hx198_1; replace p198 := eq_true p198; replace q198 := eq_true q198) | ((with_reducible refine gate_builtin (b := .append) (xs := #[.tmp 28, .tmp 34]) rfl ?_); at_builtin; refine Kd.R_append Kd.string (w0 := w) w.heap.size rfl (.tmp 28) (.tmp 34) 28 9 (.string ⟨#[]⟩) 16 rfl Try.underlying28 info9 rfl (by decide) (by omega) u5 x5_1 ((rd_T42 l0 x6_1).f0) [.string ((rd_T42 l0 x6_1).f0)] (fun _ => True) (fun _ => False) rfl rfl ?aP (fun _ hk => hk.elim) ?aF ?aO ?aB ?aS ?aL ?_; (case aP => exact rfl); (case aB => exact (by repeat (first | (with_reducible first | exact HB.out | apply below_alloc | apply pw_below_drewN | apply below_drew1) | exact HB.out))); (case aF => exact (fun _ _ => trivial)); (case aO => exact (by (with_reducible repeat (first | apply Kd.R_alloc | apply Kd.R_drewN | apply Kd.R_drew)); exact HO_5.out)); (case aS => exact (below_size (by repeat (first | (with_reducible first | exact HB.out | apply below_alloc | apply pw_below_drewN | apply below_drew1) | exact HB.out)))); (case aL => have := LMc9.out; omega); intro v200 w10 ho hb hg hat; rw [← Ny199.out] at ho; have n0_ := Aside0.mk (hb); have n1_ := Aside0.mk (ho); clear HB; clear HO_5; have HB := n0_; have HO201 := n1_; clear n0_ n1_; clear ho hb hg hat))
              go_roundg k1
              case measure => have := HK1.out; omega
              case rel => exact ⟨(y199), (wrap64 (x6_1 + 1)), (by first | rfl | (simp; done) | (simp [*]; done)), H', ⟨by have := HK1.out; omega⟩, ⟨by (with_reducible repeat (first | apply Kd.R_alloc | apply Kd.R_drewN | apply Kd.R_drew)); exact HO201.out⟩, ⟨by repeat (first | (with_reducible first | exact HB.out | apply below_alloc | apply pw_below_drewN | apply below_drew1) | exact HB.out)⟩⟩
            · rw [if_neg c9] at H
              exact absurd H (by simp)
          · rw [if_neg c8] at H
            have c8b0 : (t196.toList == a1.toList) = false := beq_eq_false_iff_ne.mpr c8
            have c8b1 : (t196.toList != a1.toList) = true := bne_iff_ne.mpr c8
            have H' := Aside0.mk H
            clear H
            have p195 : 0 ≤ (x6_1 : Int) := of_decide_eq_true (by first | (with_reducible assumption) | assumption)
            have q195 : x6_1 < (l0.length : Int) := of_decide_eq_true (by first | (with_reducible assumption) | assumption)
            obtain ⟨ad195, e195, hx195_0, hx195_1⟩ := at_T42 HR0.out x6_1 p195 q195
            cases e195
            replace hx195_0 := (HB.out.cell (World.block_lt_of_cell? w _ hx195_0)).trans hx195_0
            replace hx195_1 := (HB.out.cell (World.block_lt_of_cell? w _ hx195_1)).trans hx195_1
            replace p195 := eq_true p195
            replace q195 := eq_true q195
            go_wp2_with (first | ((with_reducible refine gate_callee (f := 9) rfl ?_); refine goesL_ (some 22) rfl rfl Try.func9 (by kernel_rfl) rfl #[.string ((rd_T42 l0 x6_1).f0)] rfl (by (try simp only [List.map_toArray, List.map_cons, List.map_nil]); first | done | rfl | (simp only [List.length_drop, List.length_take]; rfl)) ?_; (with_reducible refine (examboardref13_Parent.calls k1 ((rd_T42 l0 x6_1).f0) t196 t197 _ A7.out).mono ?_); rintro e w' ⟨rfl, ⟨nd, rfl⟩⟩; refine ⟨_, rfl, ?_⟩))
            go_roundg k1
            case measure => have := HK1.out; omega
            case rel => exact ⟨(x5_1), (wrap64 (x6_1 + 1)), (by first | rfl | (simp; done) | (simp [*]; done)), H', ⟨by have := HK1.out; omega⟩, ⟨by (with_reducible repeat (first | apply Kd.R_alloc | apply Kd.R_drewN | apply Kd.R_drew)); exact HO_5.out⟩, ⟨by repeat (first | (with_reducible first | exact HB.out | apply below_alloc | apply pw_below_drewN | apply below_drew1) | exact HB.out)⟩⟩
        · rw [if_neg c6] at H
          exact absurd H (by simp)
      · rw [if_neg c5] at H
        have c5b0 : decide (x6_1 < (l0.length : Int)) = false := decide_eq_false c5
        clear c5
        obtain rfl := Option.some.inj H
        go_wp2
        go_ret
        exact ⟨_, by first | rfl | (simp [errW_none, errW_some] <;> rfl) | (simp [*, errW_none, errW_some] <;> rfl), by (with_reducible repeat (first | apply Kd.R_alloc | apply Kd.R_drewN | apply Kd.R_drew)); exact HO_5.out, by repeat (first | (with_reducible first | exact HB.out | apply below_alloc | apply pw_below_drewN | apply below_drew1) | exact HB.out)⟩

/-! ### examboardref13_Count: function 19 -/
def examboardref13_Count.l0 : Nat → List ByteArray → ByteArray → Int → Int → Option (Int)
  | 0, _, _, _, _ => none
  | k + 1, x0, x1, x5, x6 => if x6 < (x0.length : Int) then (if 0 ≤ x6 then ((examboardref13_Under.f (rdOf ByteArray.empty x0 x6) x1).bind fun t203 => (if t203 = true then (examboardref13_Count.l0 k x0 x1 (wrap64 (x5 + 1)) (wrap64 (x6 + 1))) else (examboardref13_Count.l0 k x0 x1 x5 (wrap64 (x6 + 1))))) else (none)) else (some x5)
def examboardref13_Count.f (k : Nat) (l0 : List ByteArray) (a1 : ByteArray) : Option (Int) := examboardref13_Count.l0 k l0 a1 0 0
theorem examboardref13_Count.mono_l : ∀ k, (∀ y0 y1 y2 y3, LeO (examboardref13_Count.l0 k y0 y1 y2 y3) (examboardref13_Count.l0 (k + 1) y0 y1 y2 y3))
  | 0 => fun _ _ _ _ r h => by simp [examboardref13_Count.l0] at h
  | k + 1 => by
    have ih0 := examboardref13_Count.mono_l k
    · intro y0 y1 y2 y3
      unfold examboardref13_Count.l0
      repeat' first
      | (with_reducible exact ih0 _ _ _ _)
      | (with_reducible exact LeO.refl _)
      | (with_reducible exact LeO.none _)
      | (with_reducible refine LeO.ite ?_ ?_)
      | (with_reducible refine LeO.bind ?_ (fun _ => ?_))
      | exact ih0 _ _ _ _
      | exact LeO.none _
      | refine LeO.ite ?_ ?_
      | refine LeO.bind ?_ (fun _ => ?_)
theorem examboardref13_Count.mono : ∀ a0 a1 k, LeO (examboardref13_Count.f k a0 a1) (examboardref13_Count.f (k + 1) a0 a1) := by
  intro a0 a1 k
  have ih0 := examboardref13_Count.mono_l k
  unfold examboardref13_Count.f
  repeat' first
      | (with_reducible exact ih0 _ _ _ _)
      | (with_reducible exact LeO.refl _)
      | (with_reducible exact LeO.none _)
      | (with_reducible refine LeO.ite ?_ ?_)
      | (with_reducible refine LeO.bind ?_ (fun _ => ?_))
      | exact ih0 _ _ _ _
      | exact LeO.none _
      | refine LeO.ite ?_ ?_
      | refine LeO.bind ?_ (fun _ => ?_)
set_option maxHeartbeats 8000000 in
set_option maxRecDepth 100000 in
theorem examboardref13_Count.calls (k : Nat) (A0 : Option Addr) (c0 : Nat) (l0 : List ByteArray) (a1 : ByteArray) (r : Int) (w : World) (hr0 : Kd.C Kd.string w A0 l0.length l0) (hc0 : l0.length ≤ c0) (h : examboardref13_Count.f k l0 a1 = some r) :
    Calls Try.prog 19 #[.slice A0 l0.length c0, .string a1] w fun e w' => e = .returned (.int .i64 r) ∧ Drawn0 w w' := by
  have HR0 := Aside0.mk hr0
  have HC0 := Aside0.mk hc0
  clear hr0 hc0
  have H : (examboardref13_Count.l0 k l0 a1 0 0) = some r := h
  clear h
  have H' := Aside0.mk H
  clear H
  go_enter Try.func19, Try.ntmps19
  go_wp2
  go_loopg [5, 6] k (fun kq v5 v6 w' => ∃ (x5_1 : Int) (x6_1 : Int), v5 = .int .i64 x5_1 ∧ v6 = .int .i64 x6_1 ∧ Aside0 (examboardref13_Count.l0 kq l0 a1 x5_1 x6_1 = some r) ∧ Aside0 (kq ≤ k) ∧ Drawn0 w w')
  case atStart => exact ⟨(0), (0), (by first | rfl | (simp; done) | (simp [*]; done)), (by first | rfl | (simp; done) | (simp [*]; done)), H', ⟨Nat.le_refl _⟩, by repeat (first | exact Drawn0.refl _ | apply Drawn0.step)⟩
  case round =>
    clear H'
    try clear c1
    try clear p2
    obtain ⟨x5_1, x6_1, rfl, rfl, HA, HK1, ⟨m1, rfl⟩⟩ := hrel
    cases gk with
    | zero => exact absurd HA.out (by simp [examboardref13_Count.l0])
    | succ k1 =>
      have H := HA.out
      clear HA
      simp only [examboardref13_Count.l0] at H
      by_cases c3 : x6_1 < (l0.length : Int)
      · rw [if_pos c3] at H
        have c3b0 : decide (x6_1 < (l0.length : Int)) = true := decide_eq_true c3
        clear c3
        by_cases c4 : 0 ≤ x6_1
        · rw [if_pos c4] at H
          have c4b0 : decide (0 ≤ x6_1) = true := decide_eq_true c4
          clear c4
          replace H := Option.bind_eq_some_iff.mp H
          obtain ⟨t203, A50, H⟩ := H
          replace H : (if t203 = true then (examboardref13_Count.l0 k1 l0 a1 (wrap64 (x5_1 + 1)) (wrap64 (x6_1 + 1))) else (examboardref13_Count.l0 k1 l0 a1 x5_1 (wrap64 (x6_1 + 1)))) = some r := H
          have A5 := Aside0.mk A50
          clear A50
          by_cases c6 : t203 = true
          · subst c6
            have H1 : (examboardref13_Count.l0 k1 l0 a1 (wrap64 (x5_1 + 1)) (wrap64 (x6_1 + 1))) = some r := by rw [if_pos rfl] at H; exact H
            clear H
            have H := H1
            clear H1
            have H' := Aside0.mk H
            clear H
            have p202 : 0 ≤ (x6_1 : Int) := of_decide_eq_true (by first | (with_reducible assumption) | assumption)
            have q202 : x6_1 < (l0.length : Int) := of_decide_eq_true (by first | (with_reducible assumption) | assumption)
            obtain ⟨ad202, e202, hx202_0⟩ := Kd.at_string HR0.out x6_1 p202 q202
            cases e202
            replace p202 := eq_true p202
            replace q202 := eq_true q202
            go_wp2_with (first | ((with_reducible refine gate_callee (f := 13) rfl ?_); refine goesL_ (some 18) rfl rfl Try.func13 (by kernel_rfl) rfl #[.string (rdOf ByteArray.empty l0 x6_1), .string a1] rfl (by (try simp only [List.map_toArray, List.map_cons, List.map_nil]); first | done | rfl | (simp only [List.length_drop, List.length_take]; rfl)) ?_; (with_reducible refine (examboardref13_Under.calls (rdOf ByteArray.empty l0 x6_1) a1 true _ A5.out).mono ?_); rintro e w' ⟨rfl, ⟨nd, rfl⟩⟩; refine ⟨_, rfl, ?_⟩))
            go_roundg k1
            case measure => have := HK1.out; omega
            case rel => exact ⟨(wrap64 (x5_1 + 1)), (wrap64 (x6_1 + 1)), (by first | rfl | (simp; done) | (simp [*]; done)), (by first | rfl | (simp; done) | (simp [*]; done)), H', ⟨by have := HK1.out; omega⟩, by repeat (first | exact Drawn0.refl _ | apply Drawn0.step)⟩
          · replace c6 := Bool.eq_false_iff.mpr c6
            subst c6
            have H1 : (examboardref13_Count.l0 k1 l0 a1 x5_1 (wrap64 (x6_1 + 1))) = some r := by rw [if_neg (show ¬ (false = true) by decide)] at H; exact H
            clear H
            have H := H1
            clear H1
            have H' := Aside0.mk H
            clear H
            have p202 : 0 ≤ (x6_1 : Int) := of_decide_eq_true (by first | (with_reducible assumption) | assumption)
            have q202 : x6_1 < (l0.length : Int) := of_decide_eq_true (by first | (with_reducible assumption) | assumption)
            obtain ⟨ad202, e202, hx202_0⟩ := Kd.at_string HR0.out x6_1 p202 q202
            cases e202
            replace p202 := eq_true p202
            replace q202 := eq_true q202
            go_wp2_with (first | ((with_reducible refine gate_callee (f := 13) rfl ?_); refine goesL_ (some 18) rfl rfl Try.func13 (by kernel_rfl) rfl #[.string (rdOf ByteArray.empty l0 x6_1), .string a1] rfl (by (try simp only [List.map_toArray, List.map_cons, List.map_nil]); first | done | rfl | (simp only [List.length_drop, List.length_take]; rfl)) ?_; (with_reducible refine (examboardref13_Under.calls (rdOf ByteArray.empty l0 x6_1) a1 false _ A5.out).mono ?_); rintro e w' ⟨rfl, ⟨nd, rfl⟩⟩; refine ⟨_, rfl, ?_⟩))
            go_roundg k1
            case measure => have := HK1.out; omega
            case rel => exact ⟨(x5_1), (wrap64 (x6_1 + 1)), (by first | rfl | (simp; done) | (simp [*]; done)), (by first | rfl | (simp; done) | (simp [*]; done)), H', ⟨by have := HK1.out; omega⟩, by repeat (first | exact Drawn0.refl _ | apply Drawn0.step)⟩
        · rw [if_neg c4] at H
          exact absurd H (by simp)
      · rw [if_neg c3] at H
        have c3b0 : decide (x6_1 < (l0.length : Int)) = false := decide_eq_false c3
        clear c3
        obtain rfl := Option.some.inj H
        go_wp2
        go_ret
        exact ⟨by first | rfl | (simp; done) | (simp [*]; done), by repeat (first | exact Drawn0.refl _ | apply Drawn0.step)⟩

/-! ### examboardref13_Unmet: function 22 -/
def examboardref13_Unmet.l0 : Nat → List ByteArray → List (S51) → List Int → Int → Option (List Int)
  | 0, _, _, _, _ => none
  | k + 1, x0, x1, x5, x6 => if x6 < (x1.length : Int) then (if 0 ≤ x6 then ((examboardref13_Count.f k x0 ((rd_T51 x1 x6).f0)).bind fun t208 => (if t208 < ((rd_T51 x1 x6).f1) then (if x5.length < 17592186044416 then (examboardref13_Unmet.l0 k x0 x1 (x5 ++ [x6]) (wrap64 (x6 + 1))) else (none)) else (if t208 > ((rd_T51 x1 x6).f2) then (if x5.length < 17592186044416 then (examboardref13_Unmet.l0 k x0 x1 (x5 ++ [x6]) (wrap64 (x6 + 1))) else (none)) else (examboardref13_Unmet.l0 k x0 x1 x5 (wrap64 (x6 + 1)))))) else (none)) else (some x5)
def examboardref13_Unmet.f (k : Nat) (l0 : List ByteArray) (l1 : List (S51)) : Option (List Int) := examboardref13_Unmet.l0 k l0 l1 (([] : List Int)) 0
theorem examboardref13_Unmet.mono_l : ∀ k, (∀ y0 y1 y2 y3, LeO (examboardref13_Unmet.l0 k y0 y1 y2 y3) (examboardref13_Unmet.l0 (k + 1) y0 y1 y2 y3))
  | 0 => fun _ _ _ _ r h => by simp [examboardref13_Unmet.l0] at h
  | k + 1 => by
    have ih0 := examboardref13_Unmet.mono_l k
    · intro y0 y1 y2 y3
      unfold examboardref13_Unmet.l0
      repeat' first
      | (with_reducible exact ih0 _ _ _ _)
      | (with_reducible exact examboardref13_Count.mono _ _ _)
      | (with_reducible exact LeO.refl _)
      | (with_reducible exact LeO.none _)
      | (with_reducible refine LeO.ite ?_ ?_)
      | (with_reducible refine LeO.bind ?_ (fun _ => ?_))
      | exact ih0 _ _ _ _
      | exact examboardref13_Count.mono _ _ _
      | exact LeO.none _
      | refine LeO.ite ?_ ?_
      | refine LeO.bind ?_ (fun _ => ?_)
theorem examboardref13_Unmet.mono : ∀ a0 a1 k, LeO (examboardref13_Unmet.f k a0 a1) (examboardref13_Unmet.f (k + 1) a0 a1) := by
  intro a0 a1 k
  have ih0 := examboardref13_Unmet.mono_l k
  unfold examboardref13_Unmet.f
  repeat' first
      | (with_reducible exact ih0 _ _ _ _)
      | (with_reducible exact examboardref13_Count.mono _ _ _)
      | (with_reducible exact LeO.refl _)
      | (with_reducible exact LeO.none _)
      | (with_reducible refine LeO.ite ?_ ?_)
      | (with_reducible refine LeO.bind ?_ (fun _ => ?_))
      | exact ih0 _ _ _ _
      | exact examboardref13_Count.mono _ _ _
      | exact LeO.none _
      | refine LeO.ite ?_ ?_
      | refine LeO.bind ?_ (fun _ => ?_)
set_option maxHeartbeats 8000000 in
set_option maxRecDepth 100000 in
theorem examboardref13_Unmet.calls (k : Nat) (A0 : Option Addr) (c0 : Nat) (l0 : List ByteArray) (A1 : Option Addr) (c1 : Nat) (l1 : List (S51)) (r : List Int) (w : World) (hr0 : Kd.C Kd.string w A0 l0.length l0) (hc0 : l0.length ≤ c0) (hr1 : Kd.C k51 w A1 l1.length l1) (hc1 : l1.length ≤ c1) (h : examboardref13_Unmet.f k l0 l1 = some r) :
    Calls Try.prog 22 #[.slice A0 l0.length c0, .slice A1 l1.length c1] w fun e w' => ∃ v0_ : Value, e = .returned (v0_) ∧ Kd.R (Kd.int .i64) 3 w' w.heap.size (fun _ => True) v0_ r ∧ Below w.heap.size w w' := by
  have HR0 := Aside0.mk hr0
  have HC0 := Aside0.mk hc0
  clear hr0 hc0
  have HR1 := Aside0.mk hr1
  have HC1 := Aside0.mk hc1
  clear hr1 hc1
  have HB := Aside0.mk (Below.refl w.heap.size w)
  have H : (examboardref13_Unmet.l0 k l0 l1 (([] : List Int)) 0) = some r := h
  clear h
  obtain ⟨y204, hy204⟩ : ∃ y_ : List Int, y_ = (([] : List Int)) := ⟨_, rfl⟩
  replace H : (examboardref13_Unmet.l0 k l0 l1 y204 0) = some r := by first | (rw [hy204]; with_reducible exact H) | (have H2_ := (Option.bind_some _ _).symm.trans H; rw [hy204]; with_reducible exact H2_) | (have H2_ := (Option.bind_some _ _).symm.trans H; with_reducible exact H2_) | with_reducible exact H | (rw [hy204]; exact H) | exact H
  have Ny204 := Aside0.mk hy204
  clear hy204
  have H' := Aside0.mk H
  clear H
  go_enter Try.func22, Try.ntmps22
  go_wp2_with (first | ((with_reducible refine gate_dst (N := 8) rfl ?_); refine Kd.R_lit (Kd.int .i64) _ 3 ?hg (N := 8) ?hd (xs := ([] : List Int)) (inner := []) (ok := fun _ => True) (okp := fun _ => True) ?hr ?hp (fun _ hk => hk) trivial (Below.refl _ _) (Nat.le_refl _) (by simp) ?_; (case hd => rfl); (case hg => rfl); (case hr => first | (go_simp; done) | (go_simp; rfl)); (case hp => exact (Reps.none _ _)); intro v205 w3 ho4 hb hg_ hnew_; clear hg_ hnew_; (first | rw [← Ny204.out] at ho4 | (simp only [Int.reduceToNat] at ho4; rw [← Ny204.out] at ho4)); have n0_ := Aside0.mk (Kd.R_lower ho4 (below_size (by repeat (first | (with_reducible first | exact HB.out | apply below_alloc | apply pw_below_drewN | apply below_drew1) | exact HB.out)))); have n1_ := Aside0.mk (below_step (by repeat (first | (with_reducible first | exact HB.out | apply below_alloc | apply pw_below_drewN | apply below_drew1) | exact HB.out)) hb); clear HB; have HO206 := n0_; have HB := n1_; clear n0_ n1_; clear hb ho4))
  go_loopg [5, 6] k (fun kq v5 v6 w' => ∃ (x5_1 : List Int) (x6_1 : Int), v6 = .int .i64 x6_1 ∧ Aside0 (examboardref13_Unmet.l0 kq l0 l1 x5_1 x6_1 = some r) ∧ Aside0 (kq ≤ k) ∧ Aside0 (Kd.R (Kd.int .i64) 3 w' w.heap.size (fun _ => True) v5 x5_1) ∧ Aside0 (Below w.heap.size w w'))
  case atStart => exact ⟨(y204), (0), (by first | rfl | (simp; done) | (simp [*]; done)), H', ⟨Nat.le_refl _⟩, ⟨by (with_reducible repeat (first | apply Kd.R_alloc | apply Kd.R_drewN | apply Kd.R_drew)); exact HO206.out⟩, ⟨by repeat (first | (with_reducible first | exact HB.out | apply below_alloc | apply pw_below_drewN | apply below_drew1) | exact HB.out)⟩⟩
  case round =>
    clear H'
    try clear c1
    try clear c2
    try clear p2
    obtain ⟨x5_1, x6_1, rfl, HA, HK1, HO_5, HB⟩ := hrel
    cases gk with
    | zero => exact absurd HA.out (by simp [examboardref13_Unmet.l0])
    | succ k1 =>
      have H := HA.out
      clear HA
      simp only [examboardref13_Unmet.l0] at H
      by_cases c5 : x6_1 < (l1.length : Int)
      · rw [if_pos c5] at H
        have c5b0 : decide (x6_1 < (l1.length : Int)) = true := decide_eq_true c5
        clear c5
        by_cases c6 : 0 ≤ x6_1
        · rw [if_pos c6] at H
          have c6b0 : decide (0 ≤ x6_1) = true := decide_eq_true c6
          clear c6
          replace H := Option.bind_eq_some_iff.mp H
          obtain ⟨t208, A70, H⟩ := H
          replace H : (if t208 < ((rd_T51 l1 x6_1).f1) then (if x5_1.length < 17592186044416 then (examboardref13_Unmet.l0 k1 l0 l1 (x5_1 ++ [x6_1]) (wrap64 (x6_1 + 1))) else (none)) else (if t208 > ((rd_T51 l1 x6_1).f2) then (if x5_1.length < 17592186044416 then (examboardref13_Unmet.l0 k1 l0 l1 (x5_1 ++ [x6_1]) (wrap64 (x6_1 + 1))) else (none)) else (examboardref13_Unmet.l0 k1 l0 l1 x5_1 (wrap64 (x6_1 + 1))))) = some r := H
          have A7 := Aside0.mk A70
          clear A70
          by_cases c8 : t208 < ((rd_T51 l1 x6_1).f1)
          · rw [if_pos c8] at H
            have c8b0 : decide (t208 < ((rd_T51 l1 x6_1).f1)) = true := decide_eq_true c8
            clear c8
            by_cases c9 : x5_1.length < 17592186044416
            · rw [if_pos c9] at H
              have LMc9 := Aside0.mk c9
              clear c9
              obtain ⟨y210, hy210⟩ : ∃ y_ : List Int, y_ = (x5_1 ++ [x6_1]) := ⟨_, rfl⟩
              replace H : (examboardref13_Unmet.l0 k1 l0 l1 y210 (wrap64 (x6_1 + 1))) = some r := by first | (rw [hy210]; with_reducible exact H) | (have H2_ := (Option.bind_some _ _).symm.trans H; rw [hy210]; with_reducible exact H2_) | (have H2_ := (Option.bind_some _ _).symm.trans H; with_reducible exact H2_) | with_reducible exact H | (rw [hy210]; exact H) | exact H
              have Ny210 := Aside0.mk hy210
              clear hy210
              have H' := Aside0.mk H
              clear H
              have p207 : 0 ≤ (x6_1 : Int) := of_decide_eq_true (by first | (with_reducible assumption) | assumption)
              have q207 : x6_1 < (l1.length : Int) := of_decide_eq_true (by first | (with_reducible assumption) | assumption)
              obtain ⟨ad207, e207, hx207_0, hx207_1, hx207_2⟩ := at_T51 HR1.out x6_1 p207 q207
              cases e207
              replace hx207_0 := (HB.out.cell (World.block_lt_of_cell? w _ hx207_0)).trans hx207_0
              replace hx207_1 := (HB.out.cell (World.block_lt_of_cell? w _ hx207_1)).trans hx207_1
              replace hx207_2 := (HB.out.cell (World.block_lt_of_cell? w _ hx207_2)).trans hx207_2
              replace p207 := eq_true p207
              replace q207 := eq_true q207
              go_wp2_with (first | ((with_reducible refine gate_callee (f := 19) rfl ?_); refine goesL_ (some 21) rfl rfl Try.func19 (by kernel_rfl) rfl #[.slice A0 l0.length c0, .string ((rd_T51 l1 x6_1).f0)] rfl (by (try simp only [List.map_toArray, List.map_cons, List.map_nil]); first | done | rfl | (simp only [List.length_drop, List.length_take]; rfl)) ?_; (with_reducible refine (examboardref13_Count.calls k1 _ _ l0 ((rd_T51 l1 x6_1).f0) t208 _ ?side1 ?side2 A7.out).mono ?_); (case side1 => repeat (first | exact (Kd.C_below HR0.out HB.out) | (with_reducible refine Kd.C_alloc ?_ _) | (with_reducible refine Kd.C_drewN ?_ _) | (with_reducible refine Kd.C_drew ?_))); (case side2 => exact HC0.out); rintro e w' ⟨rfl, ⟨nd, rfl⟩⟩; refine ⟨_, rfl, ?_⟩; have p209 : 0 ≤ (x6_1 : Int) := of_decide_eq_true (by first | (with_reducible assumption) | assumption); have q209 : x6_1 < (l1.length : Int) := of_decide_eq_true (by first | (with_reducible assumption) | assumption); obtain ⟨ad209, e209, hx209_0, hx209_1, hx209_2⟩ := at_T51 HR1.out x6_1 p209 q209; obtain rfl : ad207 = ad209 := (by injection e209); replace hx209_0 := (HB.out.cell (World.block_lt_of_cell? w _ hx209_0)).trans hx209_0; replace hx209_1 := (HB.out.cell (World.block_lt_of_cell? w _ hx209_1)).trans hx209_1; replace hx209_2 := (HB.out.cell (World.block_lt_of_cell? w _ hx209_2)).trans hx209_2; replace p209 := eq_true p209; replace q209 := eq_true q209) | ((with_reducible refine gate_builtin (b := .append) (xs := #[.tmp 38, .tmp 40]) rfl ?_); at_builtin; refine Kd.R_append (Kd.int .i64) (w0 := w) w.heap.size rfl (.tmp 38) (.tmp 40) 34 3 (.int .i64 0) 8 rfl Try.underlying34 info3 rfl (by decide) (by omega) u5 x5_1 x6_1 [.int .i64 x6_1] (fun _ => True) (fun _ => False) rfl rfl ?aP (fun _ hk => hk.elim) ?aF ?aO ?aB ?aS ?aL ?_; (case aP => exact rfl); (case aB => exact (by repeat (first | (with_reducible first | exact HB.out | apply below_alloc | apply pw_below_drewN | apply below_drew1) | exact HB.out))); (case aF => exact (fun _ _ => trivial)); (case aO => exact (by (with_reducible repeat (first | apply Kd.R_alloc | apply Kd.R_drewN | apply Kd.R_drew)); exact HO_5.out)); (case aS => exact (below_size (by repeat (first | (with_reducible first | exact HB.out | apply below_alloc | apply pw_below_drewN | apply below_drew1) | exact HB.out)))); (case aL => have := LMc9.out; omega); intro v211 w10 ho hb hg hat; rw [← Ny210.out] at ho; have n0_ := Aside0.mk (hb); have n1_ := Aside0.mk (ho); clear HB; clear HO_5; have HB := n0_; have HO212 := n1_; clear n0_ n1_; clear ho hb hg hat))
              go_roundg k1
              case measure => have := HK1.out; omega
              case rel => exact ⟨(y210), (wrap64 (x6_1 + 1)), (by first | rfl | (simp; done) | (simp [*]; done)), H', ⟨by have := HK1.out; omega⟩, ⟨by (with_reducible repeat (first | apply Kd.R_alloc | apply Kd.R_drewN | apply Kd.R_drew)); exact HO212.out⟩, ⟨by repeat (first | (with_reducible first | exact HB.out | apply below_alloc | apply pw_below_drewN | apply below_drew1) | exact HB.out)⟩⟩
            · rw [if_neg c9] at H
              exact absurd H (by simp)
          · rw [if_neg c8] at H
            have c8b0 : decide (t208 < ((rd_T51 l1 x6_1).f1)) = false := decide_eq_false c8
            clear c8
            by_cases c11 : t208 > ((rd_T51 l1 x6_1).f2)
            · rw [if_pos c11] at H
              have c11b0 : decide (((rd_T51 l1 x6_1).f2) < t208) = true := decide_eq_true c11
              clear c11
              by_cases c12 : x5_1.length < 17592186044416
              · rw [if_pos c12] at H
                have LMc12 := Aside0.mk c12
                clear c12
                obtain ⟨y214, hy214⟩ : ∃ y_ : List Int, y_ = (x5_1 ++ [x6_1]) := ⟨_, rfl⟩
                replace H : (examboardref13_Unmet.l0 k1 l0 l1 y214 (wrap64 (x6_1 + 1))) = some r := by first | (rw [hy214]; with_reducible exact H) | (have H2_ := (Option.bind_some _ _).symm.trans H; rw [hy214]; with_reducible exact H2_) | (have H2_ := (Option.bind_some _ _).symm.trans H; with_reducible exact H2_) | with_reducible exact H | (rw [hy214]; exact H) | exact H
                have Ny214 := Aside0.mk hy214
                clear hy214
                have H' := Aside0.mk H
                clear H
                have p207 : 0 ≤ (x6_1 : Int) := of_decide_eq_true (by first | (with_reducible assumption) | assumption)
                have q207 : x6_1 < (l1.length : Int) := of_decide_eq_true (by first | (with_reducible assumption) | assumption)
                obtain ⟨ad207, e207, hx207_0, hx207_1, hx207_2⟩ := at_T51 HR1.out x6_1 p207 q207
                cases e207
                replace hx207_0 := (HB.out.cell (World.block_lt_of_cell? w _ hx207_0)).trans hx207_0
                replace hx207_1 := (HB.out.cell (World.block_lt_of_cell? w _ hx207_1)).trans hx207_1
                replace hx207_2 := (HB.out.cell (World.block_lt_of_cell? w _ hx207_2)).trans hx207_2
                replace p207 := eq_true p207
                replace q207 := eq_true q207
                go_wp2_with (first | ((with_reducible refine gate_callee (f := 19) rfl ?_); refine goesL_ (some 21) rfl rfl Try.func19 (by kernel_rfl) rfl #[.slice A0 l0.length c0, .string ((rd_T51 l1 x6_1).f0)] rfl (by (try simp only [List.map_toArray, List.map_cons, List.map_nil]); first | done | rfl | (simp only [List.length_drop, List.length_take]; rfl)) ?_; (with_reducible refine (examboardref13_Count.calls k1 _ _ l0 ((rd_T51 l1 x6_1).f0) t208 _ ?side1 ?side2 A7.out).mono ?_); (case side1 => repeat (first | exact (Kd.C_below HR0.out HB.out) | (with_reducible refine Kd.C_alloc ?_ _) | (with_reducible refine Kd.C_drewN ?_ _) | (with_reducible refine Kd.C_drew ?_))); (case side2 => exact HC0.out); rintro e w' ⟨rfl, ⟨nd, rfl⟩⟩; refine ⟨_, rfl, ?_⟩; have p209 : 0 ≤ (x6_1 : Int) := of_decide_eq_true (by first | (with_reducible assumption) | assumption); have q209 : x6_1 < (l1.length : Int) := of_decide_eq_true (by first | (with_reducible assumption) | assumption); obtain ⟨ad209, e209, hx209_0, hx209_1, hx209_2⟩ := at_T51 HR1.out x6_1 p209 q209; obtain rfl : ad207 = ad209 := (by injection e209); replace hx209_0 := (HB.out.cell (World.block_lt_of_cell? w _ hx209_0)).trans hx209_0; replace hx209_1 := (HB.out.cell (World.block_lt_of_cell? w _ hx209_1)).trans hx209_1; replace hx209_2 := (HB.out.cell (World.block_lt_of_cell? w _ hx209_2)).trans hx209_2; replace p209 := eq_true p209; replace q209 := eq_true q209; have p213 : 0 ≤ (x6_1 : Int) := of_decide_eq_true (by first | (with_reducible assumption) | assumption); have q213 : x6_1 < (l1.length : Int) := of_decide_eq_true (by first | (with_reducible assumption) | assumption); obtain ⟨ad213, e213, hx213_0, hx213_1, hx213_2⟩ := at_T51 HR1.out x6_1 p213 q213; obtain rfl : ad207 = ad213 := (by injection e213); replace hx213_0 := (HB.out.cell (World.block_lt_of_cell? w _ hx213_0)).trans hx213_0; replace hx213_1 := (HB.out.cell (World.block_lt_of_cell? w _ hx213_1)).trans hx213_1; replace hx213_2 := (HB.out.cell (World.block_lt_of_cell? w _ hx213_2)).trans hx213_2; replace p213 := eq_true p213; replace q213 := eq_true q213) | ((with_reducible refine gate_builtin (b := .append) (xs := #[.tmp 38, .tmp 40]) rfl ?_); at_builtin; refine Kd.R_append (Kd.int .i64) (w0 := w) w.heap.size rfl (.tmp 38) (.tmp 40) 34 3 (.int .i64 0) 8 rfl Try.underlying34 info3 rfl (by decide) (by omega) u5 x5_1 x6_1 [.int .i64 x6_1] (fun _ => True) (fun _ => False) rfl rfl ?aP (fun _ hk => hk.elim) ?aF ?aO ?aB ?aS ?aL ?_; (case aP => exact rfl); (case aB => exact (by repeat (first | (with_reducible first | exact HB.out | apply below_alloc | apply pw_below_drewN | apply below_drew1) | exact HB.out))); (case aF => exact (fun _ _ => trivial)); (case aO => exact (by (with_reducible repeat (first | apply Kd.R_alloc | apply Kd.R_drewN | apply Kd.R_drew)); exact HO_5.out)); (case aS => exact (below_size (by repeat (first | (with_reducible first | exact HB.out | apply below_alloc | apply pw_below_drewN | apply below_drew1) | exact HB.out)))); (case aL => have := LMc12.out; omega); intro v215 w13 ho hb hg hat; rw [← Ny214.out] at ho; have n0_ := Aside0.mk (hb); have n1_ := Aside0.mk (ho); clear HB; clear HO_5; have HB := n0_; have HO216 := n1_; clear n0_ n1_; clear ho hb hg hat))
                go_roundg k1
                case measure => have := HK1.out; omega
                case rel => exact ⟨(y214), (wrap64 (x6_1 + 1)), (by first | rfl | (simp; done) | (simp [*]; done)), H', ⟨by have := HK1.out; omega⟩, ⟨by (with_reducible repeat (first | apply Kd.R_alloc | apply Kd.R_drewN | apply Kd.R_drew)); exact HO216.out⟩, ⟨by repeat (first | (with_reducible first | exact HB.out | apply below_alloc | apply pw_below_drewN | apply below_drew1) | exact HB.out)⟩⟩
              · rw [if_neg c12] at H
                exact absurd H (by simp)
            · rw [if_neg c11] at H
              have c11b0 : decide (((rd_T51 l1 x6_1).f2) < t208) = false := decide_eq_false c11
              clear c11
              have H' := Aside0.mk H
              clear H
              have p207 : 0 ≤ (x6_1 : Int) := of_decide_eq_true (by first | (with_reducible assumption) | assumption)
              have q207 : x6_1 < (l1.length : Int) := of_decide_eq_true (by first | (with_reducible assumption) | assumption)
              obtain ⟨ad207, e207, hx207_0, hx207_1, hx207_2⟩ := at_T51 HR1.out x6_1 p207 q207
              cases e207
              replace hx207_0 := (HB.out.cell (World.block_lt_of_cell? w _ hx207_0)).trans hx207_0
              replace hx207_1 := (HB.out.cell (World.block_lt_of_cell? w _ hx207_1)).trans hx207_1
              replace hx207_2 := (HB.out.cell (World.block_lt_of_cell? w _ hx207_2)).trans hx207_2
              replace p207 := eq_true p207
              replace q207 := eq_true q207
              go_wp2_with (first | ((with_reducible refine gate_callee (f := 19) rfl ?_); refine goesL_ (some 21) rfl rfl Try.func19 (by kernel_rfl) rfl #[.slice A0 l0.length c0, .string ((rd_T51 l1 x6_1).f0)] rfl (by (try simp only [List.map_toArray, List.map_cons, List.map_nil]); first | done | rfl | (simp only [List.length_drop, List.length_take]; rfl)) ?_; (with_reducible refine (examboardref13_Count.calls k1 _ _ l0 ((rd_T51 l1 x6_1).f0) t208 _ ?side1 ?side2 A7.out).mono ?_); (case side1 => repeat (first | exact (Kd.C_below HR0.out HB.out) | (with_reducible refine Kd.C_alloc ?_ _) | (with_reducible refine Kd.C_drewN ?_ _) | (with_reducible refine Kd.C_drew ?_))); (case side2 => exact HC0.out); rintro e w' ⟨rfl, ⟨nd, rfl⟩⟩; refine ⟨_, rfl, ?_⟩; have p209 : 0 ≤ (x6_1 : Int) := of_decide_eq_true (by first | (with_reducible assumption) | assumption); have q209 : x6_1 < (l1.length : Int) := of_decide_eq_true (by first | (with_reducible assumption) | assumption); obtain ⟨ad209, e209, hx209_0, hx209_1, hx209_2⟩ := at_T51 HR1.out x6_1 p209 q209; obtain rfl : ad207 = ad209 := (by injection e209); replace hx209_0 := (HB.out.cell (World.block_lt_of_cell? w _ hx209_0)).trans hx209_0; replace hx209_1 := (HB.out.cell (World.block_lt_of_cell? w _ hx209_1)).trans hx209_1; replace hx209_2 := (HB.out.cell (World.block_lt_of_cell? w _ hx209_2)).trans hx209_2; replace p209 := eq_true p209; replace q209 := eq_true q209; have p213 : 0 ≤ (x6_1 : Int) := of_decide_eq_true (by first | (with_reducible assumption) | assumption); have q213 : x6_1 < (l1.length : Int) := of_decide_eq_true (by first | (with_reducible assumption) | assumption); obtain ⟨ad213, e213, hx213_0, hx213_1, hx213_2⟩ := at_T51 HR1.out x6_1 p213 q213; obtain rfl : ad207 = ad213 := (by injection e213); replace hx213_0 := (HB.out.cell (World.block_lt_of_cell? w _ hx213_0)).trans hx213_0; replace hx213_1 := (HB.out.cell (World.block_lt_of_cell? w _ hx213_1)).trans hx213_1; replace hx213_2 := (HB.out.cell (World.block_lt_of_cell? w _ hx213_2)).trans hx213_2; replace p213 := eq_true p213; replace q213 := eq_true q213))
              go_roundg k1
              case measure => have := HK1.out; omega
              case rel => exact ⟨(x5_1), (wrap64 (x6_1 + 1)), (by first | rfl | (simp; done) | (simp [*]; done)), H', ⟨by have := HK1.out; omega⟩, ⟨by (with_reducible repeat (first | apply Kd.R_alloc | apply Kd.R_drewN | apply Kd.R_drew)); exact HO_5.out⟩, ⟨by repeat (first | (with_reducible first | exact HB.out | apply below_alloc | apply pw_below_drewN | apply below_drew1) | exact HB.out)⟩⟩
        · rw [if_neg c6] at H
          exact absurd H (by simp)
      · rw [if_neg c5] at H
        have c5b0 : decide (x6_1 < (l1.length : Int)) = false := decide_eq_false c5
        clear c5
        obtain rfl := Option.some.inj H
        go_wp2
        go_ret
        exact ⟨_, by first | rfl | (simp [errW_none, errW_some] <;> rfl) | (simp [*, errW_none, errW_some] <;> rfl), by (with_reducible repeat (first | apply Kd.R_alloc | apply Kd.R_drewN | apply Kd.R_drew)); exact HO_5.out, by repeat (first | (with_reducible first | exact HB.out | apply below_alloc | apply pw_below_drewN | apply below_drew1) | exact HB.out)⟩

end Go.Proofs.Ytfgfdjlimhlcjaa.QCon
