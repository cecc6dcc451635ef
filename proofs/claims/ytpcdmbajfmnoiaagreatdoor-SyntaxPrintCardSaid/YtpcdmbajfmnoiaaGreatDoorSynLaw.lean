/- Policies' text, plain; unlike rows of policies that may be have unlike texts. No condition. -/
import Derived.Test.YtpcdmbajfmnoiaaGreatDoorPolData
import Derived.Test.YtpcdmbajfmnoiaaGreatDoorAddrTx
import Derived.Test.YtpcdmbajfmnoiaaGreatDoorPolTRS
import Derived.Test.YtpcdmbajfmnoiaaGreatDoorLabel
import Derived.Test.YtpcdmbajfmnoiaaGreatDoorPolPoA
namespace Go.Proofs.YtpcdmbajfmnoiaaGreatDoor
open Go.RowKit
set_option linter.unusedVariables false
set_option linter.unusedSimpArgs false
/-! ### The text -/
def wPolicy : List UInt8 := [112, 111, 108, 105, 99, 121]
def wAllow : List UInt8 := [97, 108, 108, 111, 119]
def wDeny : List UInt8 := [100, 101, 110, 121]
def wNs : List UInt8 := [110, 115]
def wService : List UInt8 := [115, 101, 114, 118, 105, 99, 101]
def wRule : List UInt8 := [32, 32, 114, 117, 108, 101]
def wFrom : List UInt8 := [102, 114, 111, 109]
def wTo : List UInt8 := [116, 111]
def wWhen : List UInt8 := [119, 104, 101, 110]
def wNames : List UInt8 := [110, 97, 109, 101, 115]
def wSpaces : List UInt8 := [115, 112, 97, 99, 101, 115]
def wNets : List UInt8 := [110, 101, 116, 115]
def wPorts : List UInt8 := [112, 111, 114, 116, 115]
def wMethods : List UInt8 := [109, 101, 116, 104, 111, 100, 115]
def wPaths : List UInt8 := [112, 97, 116, 104, 115]
def wHosts : List UInt8 := [104, 111, 115, 116, 115]
/-- A term's text. -/
def tmT (t : Tm) : List UInt8 := if t.1 = 1 then t.2 else if t.1 = 2 then t.2 ++ [42] else if t.1 = 3 then 42 :: t.2 else [42]
def wordsP (p : Po) : List (List UInt8) := [wPolicy, Lib.decDigits p.id, if p.deny = 1 then wDeny else wAllow] ++ ((if p.ns = [] then [] else [wNs, p.ns]) ++ (if p.service = 0 then [] else [wService, Lib.decDigits p.service]))
def lineOf (ws : List (List UInt8)) : List UInt8 := Lib.join ws [32]
/-! ### Back -/
/-! ### Terms, numbers, nets -/
theorem dec_digit (u : Nat) : ∀ b ∈ Lib.decDigits u, 48 ≤ b.toNat ∧ b.toNat ≤ 57 := by
 induction u using Nat.strongRecOn with
 | ind u ih =>
  intro b hb
  rw [Lib.decDigits] at hb
  split at hb
  ·obtain rfl : b = UInt8.ofNat (48 + u) := by simpa using hb
   rw [UInt8.toNat_ofNat']
   omega
  ·rcases List.mem_append.1 hb with hb | hb
   ·exact ih (u / 10) (by omega) b hb
   ·obtain rfl : b = UInt8.ofNat (48 + u % 10) := by simpa using hb
    rw [UInt8.toNat_ofNat']
    omega
def decV (l : List UInt8) : Nat := l.foldl (fun a b => a * 10 + (b.toNat - 48)) 0
theorem decV_dec (u : Nat) : decV (Lib.decDigits u) = u := by
 induction u using Nat.strongRecOn with
 | ind u ih =>
  rw [Lib.decDigits]
  split
  ·show 0 * 10 + ((UInt8.ofNat (48 + u)).toNat - 48) = u
   rw [UInt8.toNat_ofNat']
   omega
  ·unfold decV
   rw [List.foldl_append]
   have := ih (u / 10) (by omega)
   unfold decV at this
   rw [this]
   show u / 10 * 10 + ((UInt8.ofNat (48 + u % 10)).toNat - 48) = u
   rw [UInt8.toNat_ofNat']
   omega
theorem port_itoa {x : Int} (h : portMay x = true) : ∃ n : Nat, x = (n : Int) ∧ Lib.itoa x = Lib.decDigits n := by
 unfold portMay at h
 simp only [Bool.and_eq_true, decide_eq_true_eq] at h
 refine ⟨x.toNat, by omega, ?_⟩
 unfold Lib.itoa
 rw [if_neg (by omega)]
/-! ### Lines -/
def okTm (L : List Tm) : Prop := ∀ t ∈ L, tmMay t = true
theorem rows_ok {R : List (List Tm)} (h : rowsMay R = true) : ∀ L ∈ R, okTm L := by
 intro L hL t ht
 unfold rowsMay at h
 have h1 := List.all_eq_true.1 h L hL
 unfold allMay at h1
 rw [Bool.and_eq_true] at h1
 exact List.all_eq_true.1 h1.2 t ht
def okF (s : Sr) : Prop := okTm s.names ∧ okTm s.spaces ∧ ∀ c ∈ s.nets, okN c ∧ nMay c = true
def okG (t : Tg) : Prop := (∀ x ∈ t.ports, portMay x = true) ∧ okTm t.methods ∧ okTm t.paths ∧ okTm t.hosts
def okW (x : Wn) : Prop := x.head.all hdOk = true ∧ x.terms ≠ [] ∧ okTm x.terms
theorem sr_ok {s : Sr} (h : srMay s = true) (hn : ∀ c ∈ s.nets, okN c) : okF s := by
 unfold srMay at h
 simp only [Bool.and_eq_true, decide_eq_true_eq, List.all_eq_true] at h
 have h1 := rows_ok h.1
 exact ⟨h1 _ (by simp), h1 _ (by simp), fun c hc => ⟨hn c hc, h.2.2 c hc⟩⟩
theorem tg_ok {t : Tg} (h : tgMay t = true) : okG t := by
 unfold tgMay at h
 simp only [Bool.and_eq_true, decide_eq_true_eq, List.all_eq_true] at h
 have h1 := rows_ok h.1
 exact ⟨h.2.1.2, h1 _ (by simp), h1 _ (by simp), h1 _ (by simp)⟩
theorem wn_ok {x : Wn} (h : wnMay x = true) : okW x := by
 unfold wnMay hdMay at h
 simp only [Bool.and_eq_true, decide_eq_true_eq] at h
 have h1 := rows_ok h.2.1
 refine ⟨h.1.1, fun e => ?_, h1 _ (by simp)⟩
 have := h.2.2
 rw [e] at this
 simp at this
/-- A byte that is in no word: a blank, a line feed. -/
structure Out (c : UInt8) : Prop where
 ch : chOk c = false
 n42 : c ≠ 42
 n44 : c ≠ 44
 lt : c.toNat < 46
 n45 : c.toNat ≠ 45
 hd : hdOk c = false
/-! ### Kinds of lines -/
/-! ### Rules, policies -/
def okR (r : Ru) : Prop := (∀ s ∈ r.froms, okF s) ∧ (∀ t ∈ r.tos, okG t) ∧ ∀ x ∈ r.whens, okW x
structure okP (p : Po) : Prop where
 deny : p.deny = 0 ∨ p.deny = 1
 ns : ∀ c, Out c → c ∉ p.ns
 rules : ∀ r ∈ p.rules, okR r
theorem lab_no {l : List UInt8} (h : labB l = true) : ∀ c, Out c → c ∉ l := by
 intro c hc hm
 unfold labB at h
 simp only [Bool.and_eq_true, List.all_eq_true, List.mem_range, decide_eq_true_eq] at h
 obtain ⟨i, hi, rfl⟩ := List.mem_iff_getElem.1 hm
 have h1 := h.1.1 i hi
 have h2 : at8 l i = l[i] := by simp [at8, List.getD, hi]
 rw [h2] at h1
 have hl := hc.lt
 have hh := hc.n45
 unfold okB at h1
 simp only [Bool.and_eq_true, Bool.or_eq_true, decide_eq_true_eq, beq_iff_eq] at h1
 omega
theorem po_okP {p : Po} (h : poMay p = true) (hok : okPo p) : okP p := by
 unfold poMay at h
 simp only [Bool.and_eq_true, Bool.or_eq_true, decide_eq_true_eq, List.all_eq_true] at h
 obtain ⟨_, _, hn, _, hd, _, hr⟩ := h
 refine ⟨hd, fun c hc => ?_, fun r hr' => ?_⟩
 ·rcases hn with hn | hn
  ·rw [List.isEmpty_iff] at hn
   rw [hn]
   simp
  ·exact lab_no hn c hc
 ·have h1 := hr r hr'
  have h2 := hok.2.2.2.2.2 r hr'
  unfold ruMay at h1
  simp only [Bool.and_eq_true, decide_eq_true_eq, List.all_eq_true] at h1
  exact ⟨fun s hs => sr_ok (h1.1.2 s hs) (h2.1.2 s hs).2.2.2, fun t ht => tg_ok (h1.2.1.2 t ht), fun x hx => wn_ok (h1.2.2.2 x hx)⟩
end Go.Proofs.YtpcdmbajfmnoiaaGreatDoor
