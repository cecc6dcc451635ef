/- Policies' text, plain; unlike rows of policies that may be have unlike texts. No condition. -/
import Derived.Test.YtpcdmbajfmnoiaaGreatDoorPolData
import Derived.Test.YtpcdmbajfmnoiaaGreatDoorAddrTx
import Derived.Test.YtpcdmbajfmnoiaaGreatDoorPolTRS
import Derived.Test.YtpcdmbajfmnoiaaGreatDoorLabel
import Derived.Test.YtpcdmbajfmnoiaaGreatDoorPolPoA
namespace Go.Proofs.YtpcdmbajfmnoiaaGreatDoor
open Go.RowKit
set_option linter.unusedVariables false
set_option linter.unusedSimpArgs false
/-! ### The text -/
def wPolicy : List UInt8 := [112, 111, 108, 105, 99, 121]
def wAllow : List UInt8 := [97, 108, 108, 111, 119]
def wDeny : List UInt8 := [100, 101, 110, 121]
def wNs : List UInt8 := [110, 115]
def wService : List UInt8 := [115, 101, 114, 118, 105, 99, 101]
def wRule : List UInt8 := [32, 32, 114, 117, 108, 101]
def wFrom : List UInt8 := [102, 114, 111, 109]
def wTo : List UInt8 := [116, 111]
def wWhen : List UInt8 := [119, 104, 101, 110]
def wNames : List UInt8 := [110, 97, 109, 101, 115]
def wSpaces : List UInt8 := [115, 112, 97, 99, 101, 115]
def wNets : List UInt8 := [110, 101, 116, 115]
def wPorts : List UInt8 := [112, 111, 114, 116, 115]
def wMethods : List UInt8 := [109, 101, 116, 104, 111, 100, 115]
def wPaths : List UInt8 := [112, 97, 116, 104, 115]
def wHosts : List UInt8 := [104, 111, 115, 116, 115]
/-- A term's text. -/
def tmT (t : Tm) : List UInt8 := if t.1 = 1 then t.2 else if t.1 = 2 then t.2 ++ [42] else if t.1 = 3 then 42 :: t.2 else [42]
/-- A word, and a list behind it, or nothing: as words. -/
def optL (word : List UInt8) (L : List (List UInt8)) : List (List UInt8) := if L = [] then [] else [word, Lib.join L [44]]
def wordsP (p : Po) : List (List UInt8) := [wPolicy, Lib.decDigits p.id, if p.deny = 1 then wDeny else wAllow] ++ ((if p.ns = [] then [] else [wNs, p.ns]) ++ (if p.service = 0 then [] else [wService, Lib.decDigits p.service]))
def wordsF (s : Sr) : List (List UInt8) := wFrom :: (optL wNames (s.names.map tmT) ++ (optL wSpaces (s.spaces.map tmT) ++ optL wNets (s.nets.map printNetA)))
def wordsT (t : Tg) : List (List UInt8) := wTo :: (optL wPorts (t.ports.map Lib.itoa) ++ (optL wMethods (t.methods.map tmT) ++ (optL wPaths (t.paths.map tmT) ++ optL wHosts (t.hosts.map tmT))))
def wordsW (x : Wn) : List (List UInt8) := wWhen :: optL x.head (x.terms.map tmT)
def lineOf (ws : List (List UInt8)) : List UInt8 := Lib.join ws [32]
def deep (ws : List (List UInt8)) : List UInt8 := 32 :: 32 :: 32 :: 32 :: lineOf ws
def linesR (r : Ru) : List (List UInt8) := wRule :: (r.froms.map (fun s => deep (wordsF s)) ++ (r.tos.map (fun t => deep (wordsT t)) ++ r.whens.map (fun x => deep (wordsW x))))
def linesP (p : Po) : List (List UInt8) := lineOf (wordsP p) :: p.rules.flatMap linesR
def textL (L : List (List UInt8)) : List UInt8 := L.flatMap fun x => x ++ [10]
def textP (l : List Po) : List UInt8 := textL (l.flatMap linesP)
/-! ### Back -/
theorem textL_inj : ∀ {L M : List (List UInt8)}, (∀ x ∈ L, (10 : UInt8) ∉ x) → (∀ x ∈ M, (10 : UInt8) ∉ x) → textL L = textL M → L = M
 | [], [], _, _, _ => rfl
 | [], y :: M, _, _, h => by simp [textL] at h
 | x :: L, [], _, _, h => by simp [textL] at h
 | x :: L, y :: M, hL, hM, h => by
  have e : ∀ (z : List UInt8) (N : List (List UInt8)), textL (z :: N) = z ++ 10 :: textL N := fun z N => by simp [textL]
  rw [e, e] at h
  have h1 := spl_app (textL L) (hL x (List.mem_cons_self))
  have h2 := spl_app (textL M) (hM y (List.mem_cons_self))
  rw [h, h2] at h1
  injection h1 with h3 h4
  subst h3
  have h5 : textL L = textL M := by
   have h6 := List.append_cancel_left h
   injection h6
  rw [textL_inj (fun z hz => hL z (List.mem_cons_of_mem _ hz)) (fun z hz => hM z (List.mem_cons_of_mem _ hz)) h5]
/-- Two rows, each the ones that are so, and behind them nothing or one that is not: the parts are the same. -/
theorem span_one {α : Type} {f : α → Bool} : ∀ {A C B D : List α}, (∀ x ∈ A, f x = true) → (∀ x ∈ C, f x = true) → (∀ x, B.head? = some x → f x = false) → (∀ x, D.head? = some x → f x = false) → A ++ B = C ++ D → A = C ∧ B = D
 | [], [], _, _, _, _, _, _, h => ⟨rfl, h⟩
 | [], c :: C, B, D, _, hC, hB, _, h => by
  rw [List.nil_append] at h
  subst h
  have h1 := hB c rfl
  rw [hC c (List.mem_cons_self)] at h1
  cases h1
 | a :: A, [], B, D, hA, _, _, hD, h => by
  rw [List.nil_append] at h
  subst h
  have h1 := hD a rfl
  rw [hA a (List.mem_cons_self)] at h1
  cases h1
 | a :: A, c :: C, B, D, hA, hC, hB, hD, h => by
  injection h with h1 h2
  subst h1
  obtain ⟨h3, h4⟩ := span_one (fun x hx => hA x (List.mem_cons_of_mem _ hx)) (fun x hx => hC x (List.mem_cons_of_mem _ hx)) hB hD h2
  exact ⟨by rw [h3], h4⟩
/-- Words joined by a byte that none of them has. -/
theorem join_inj {c : UInt8} {L M : List (List UInt8)} (hL : L ≠ []) (hM : M ≠ []) (h1 : ∀ x ∈ L, c ∉ x) (h2 : ∀ x ∈ M, c ∉ x) (h : Lib.join L [c] = Lib.join M [c]) : L = M := by
 have key : ∀ {N : List (List UInt8)}, N ≠ [] → (∀ x ∈ N, c ∉ x) → spl c (Lib.join N [c]) = N := by
  intro N
  induction N with
  | nil => intro h; exact absurd rfl h
  | cons x N ih =>
   intro _ hx
   cases N with
   | nil => rw [join_one, spl_no (hx x (List.mem_cons_self))]
   | cons y N =>
    rw [join_cons2, List.append_assoc, List.singleton_append, spl_app _ (hx x (List.mem_cons_self)), ih (by simp) fun z hz => hx z (List.mem_cons_of_mem _ hz)]
 rw [← key hL h1, ← key hM h2, h]
theorem join_no {c d : UInt8} (hcd : c ≠ d) : ∀ {L : List (List UInt8)}, (∀ x ∈ L, c ∉ x) → c ∉ Lib.join L [d]
 | [], _ => by simp [Lib.join]
 | [x], h => by rw [join_one]; exact h x (List.mem_cons_self)
 | x :: y :: L, h => by
  rw [join_cons2, List.mem_append, List.mem_append]
  rintro ((h1 | h1) | h1)
  ·exact h x (List.mem_cons_self) h1
  ·exact hcd (by simpa using h1)
  ·exact join_no hcd (fun z hz => h z (List.mem_cons_of_mem _ hz)) h1
/-- A list behind its word, and what stands behind that, which does not begin with the word. -/
theorem opt_inj {k : List UInt8} {A B : List (List UInt8)} {R S : List (List UInt8)} (hA : ∀ x ∈ A, (44 : UInt8) ∉ x) (hB : ∀ x ∈ B, (44 : UInt8) ∉ x) (hR : R.head? ≠ some k) (hS : S.head? ≠ some k) (h : optL k A ++ R = optL k B ++ S) : A = B ∧ R = S := by
 unfold optL at h
 by_cases h1 : A = []
 ·rw [if_pos h1, List.nil_append] at h
  by_cases h2 : B = []
  ·rw [if_pos h2, List.nil_append] at h
   exact ⟨by rw [h1, h2], h⟩
  ·rw [if_neg h2] at h
   rw [h] at hR
   exact absurd rfl hR
 ·rw [if_neg h1] at h
  by_cases h2 : B = []
  ·rw [if_pos h2, List.nil_append] at h
   rw [← h] at hS
   exact absurd rfl hS
  ·rw [if_neg h2] at h
   injection h with _ h
   injection h with h3 h4
   exact ⟨join_inj h1 h2 hA hB h3, h4⟩
theorem opt_head {k j : List UInt8} {A : List (List UInt8)} {R : List (List UInt8)} (hj : j ≠ k) (hR : R.head? ≠ some k) : (optL j A ++ R).head? ≠ some k := by
 unfold optL
 split
 ·exact hR
 ·intro h
  exact hj (by simpa using h)
theorem opt_mem {c : UInt8} {k : List UInt8} {A : List (List UInt8)} (hk : c ∉ k) (hc : c ≠ 44) (hA : ∀ x ∈ A, c ∉ x) : ∀ x ∈ optL k A, c ∉ x := by
 intro x hx
 unfold optL at hx
 split at hx
 ·cases hx
 ·rcases List.mem_cons.1 hx with rfl | hx
  ·exact hk
  ·obtain rfl : x = Lib.join A [44] := by simpa using hx
   exact join_no hc hA
theorem map_inj_on {α β : Type} {f : α → β} {ok : α → Prop} (h : ∀ x y, ok x → ok y → f x = f y → x = y) : ∀ {L M : List α}, (∀ x ∈ L, ok x) → (∀ x ∈ M, ok x) → L.map f = M.map f → L = M
 | [], [], _, _, _ => rfl
 | [], y :: M, _, _, e => by cases e
 | x :: L, [], _, _, e => by cases e
 | x :: L, y :: M, hL, hM, e => by
  rw [List.map_cons, List.map_cons] at e
  injection e with e1 e2
  rw [h x y (hL x (List.mem_cons_self)) (hM y (List.mem_cons_self)) e1, map_inj_on h (fun z hz => hL z (List.mem_cons_of_mem _ hz)) (fun z hz => hM z (List.mem_cons_of_mem _ hz)) e2]
/-! ### Terms, numbers, nets -/
theorem chOk_no {l : List UInt8} (h : l.all chOk = true) {c : UInt8} (hc : chOk c = false) : c ∉ l := fun hm => by
 have := List.all_eq_true.1 h c hm
 rw [hc] at this
 cases this
theorem tmT_no {t : Tm} (h : tmMay t = true) {c : UInt8} (hc : chOk c = false) (h42 : c ≠ 42) : c ∉ tmT t := by
 unfold tmMay at h
 rw [Bool.and_eq_true] at h
 have h1 := chOk_no h.1 hc
 unfold tmT
 intro hm
 split at hm
 ·exact h1 hm
 ·split at hm
  ·rcases List.mem_append.1 hm with hm | hm
   ·exact h1 hm
   ·exact h42 (by simpa using hm)
  ·split at hm
   ·rcases List.mem_cons.1 hm with hm | hm
    ·exact h42 hm
    ·exact h1 hm
   ·exact h42 (by simpa using hm)
theorem tmT_inj {t u : Tm} (ht : tmMay t = true) (hu : tmMay u = true) (h : tmT t = tmT u) : t = u := by
 have key : ∀ x : Tm, tmMay x = true → (42 : UInt8) ∉ x.2 ∧ ((x.1 = 4 ∧ x.2 = []) ∨ ((x.1 = 1 ∨ x.1 = 2 ∨ x.1 = 3) ∧ x.2 ≠ [])) := by
  intro x hx
  unfold tmMay at hx
  rw [Bool.and_eq_true] at hx
  refine ⟨chOk_no hx.1 (by decide), ?_⟩
  have h2 := hx.2
  split at h2
  ·rename_i h4
   exact .inl ⟨h4, by simpa using h2⟩
  ·simp only [Bool.and_eq_true, decide_eq_true_eq] at h2
   refine .inr ⟨by omega, fun e => ?_⟩
   rw [e] at h2
   simp at h2
 obtain ⟨kt, t2⟩ := t
 obtain ⟨ku, u2⟩ := u
 obtain ⟨n1, c1⟩ := key _ ht
 obtain ⟨n2, c2⟩ := key _ hu
 clear key ht hu
 simp only at n1 c1 n2 c2
 have last : ∀ {a b : List UInt8}, (42 : UInt8) ∉ a → a ≠ b ++ [42] := fun {a b} ha e => ha (by rw [e]; simp)
 have fa : ∀ {a : List UInt8}, a ≠ [] → [42] ≠ a ++ [42] := fun {a} ha e => by
  cases a with
  | nil => exact ha rfl
  | cons x a => simp at e
 have fb : ∀ {a : List UInt8}, a ≠ [] → [42] ≠ (42 : UInt8) :: a := fun {a} ha e => ha (by injection e with _ e; exact e.symm)
 have fc : ∀ {a b : List UInt8}, (42 : UInt8) ∉ a → a ≠ 42 :: b := fun {a b} ha e => ha (by rw [e]; exact List.mem_cons_self)
 have fd : ∀ {a b : List UInt8}, a ≠ [] → (42 : UInt8) ∉ a → a ++ [42] ≠ 42 :: b := fun {a b} h1 ha e => by
  cases a with
  | nil => exact h1 rfl
  | cons x a =>
   injection e with e _
   exact ha (by rw [e]; exact List.mem_cons_self)
 rcases c1 with ⟨rfl, rfl⟩ | ⟨rfl | rfl | rfl, g1⟩ <;> rcases c2 with ⟨rfl, rfl⟩ | ⟨rfl | rfl | rfl, g2⟩ <;> unfold tmT at h
 ·rfl
 ·exact absurd h.symm (fc n2)
 ·exact absurd h (fa g2)
 ·exact absurd h (fb g2)
 ·exact absurd h (fc n1)
 ·exact congrArg _ h
 ·exact absurd h (last n1)
 ·exact absurd h (fc n1)
 ·exact absurd h.symm (fa g1)
 ·exact absurd h.symm (last n2)
 ·exact congrArg _ (List.append_cancel_right h)
 ·exact absurd h (fd g1 n1)
 ·exact absurd h.symm (fb g1)
 ·exact absurd h.symm (fc n2)
 ·exact absurd h.symm (fd g2 n2)
 ·exact congrArg _ (by injection h)
theorem dec_digit (u : Nat) : ∀ b ∈ Lib.decDigits u, 48 ≤ b.toNat ∧ b.toNat ≤ 57 := by
 induction u using Nat.strongRecOn with
 | ind u ih =>
  intro b hb
  rw [Lib.decDigits] at hb
  split at hb
  ·obtain rfl : b = UInt8.ofNat (48 + u) := by simpa using hb
   rw [UInt8.toNat_ofNat']
   omega
  ·rcases List.mem_append.1 hb with hb | hb
   ·exact ih (u / 10) (by omega) b hb
   ·obtain rfl : b = UInt8.ofNat (48 + u % 10) := by simpa using hb
    rw [UInt8.toNat_ofNat']
    omega
theorem dec_no {u : Nat} {c : UInt8} (hc : c.toNat < 48) : c ∉ Lib.decDigits u := fun h => by
 have := dec_digit u c h
 omega
def decV (l : List UInt8) : Nat := l.foldl (fun a b => a * 10 + (b.toNat - 48)) 0
theorem decV_dec (u : Nat) : decV (Lib.decDigits u) = u := by
 induction u using Nat.strongRecOn with
 | ind u ih =>
  rw [Lib.decDigits]
  split
  ·show 0 * 10 + ((UInt8.ofNat (48 + u)).toNat - 48) = u
   rw [UInt8.toNat_ofNat']
   omega
  ·unfold decV
   rw [List.foldl_append]
   have := ih (u / 10) (by omega)
   unfold decV at this
   rw [this]
   show u / 10 * 10 + ((UInt8.ofNat (48 + u % 10)).toNat - 48) = u
   rw [UInt8.toNat_ofNat']
   omega
theorem dec_inj {u v : Nat} (h : Lib.decDigits u = Lib.decDigits v) : u = v := by rw [← decV_dec u, ← decV_dec v, h]
theorem port_itoa {x : Int} (h : portMay x = true) : ∃ n : Nat, x = (n : Int) ∧ Lib.itoa x = Lib.decDigits n := by
 unfold portMay at h
 simp only [Bool.and_eq_true, decide_eq_true_eq] at h
 refine ⟨x.toNat, by omega, ?_⟩
 unfold Lib.itoa
 rw [if_neg (by omega)]
theorem net_no {c : Nt} {d : UInt8} (hd : d.toNat < 46) : d ∉ printNetA c := by
 unfold printNetA
 split
 ·rename_i h
  rw [nMay_iff] at h
  rw [List.mem_append]
  have hi : ∀ x : Int, 0 ≤ x → d ∉ Lib.itoa x := fun x hx => by
   unfold Lib.itoa
   rw [if_neg (by omega)]
   exact dec_no (by omega)
  rintro (h1 | h1)
  ·refine join_no (c := d) (d := 46) (fun e => ?_) ?_ h1
   ·rw [e] at hd
    exact absurd hd (by decide)
   ·intro x hx
    unfold octs at hx
    simp only [List.mem_cons, List.mem_nil_iff, or_false] at hx
    rcases hx with rfl | rfl | rfl | rfl <;> exact hi _ (by omega)
  ·rcases List.mem_cons.1 h1 with h1 | h1
   ·rw [h1] at hd
    exact absurd hd (by decide)
   ·exact hi _ h.1 h1
 ·simp
theorem net_inj {c d : Nt} (hc : okN c ∧ nMay c = true) (hd : okN d ∧ nMay d = true) (h : printNetA c = printNetA d) : c = d := by
 have h1 := parse_printNet hc.1.1
 have h2 := parse_printNet hd.1.1
 rw [h, h2, if_pos hc.2, if_pos hd.2] at h1
 exact (Option.some.inj h1).symm
/-! ### Lines -/
theorem opt_head0 {k j : List UInt8} {A : List (List UInt8)} (hj : j ≠ k) : (optL j A).head? ≠ some k := by
 unfold optL
 split
 ·simp
 ·intro h
  exact hj (by simpa using h)
theorem opt_inj0 {k : List UInt8} {A B : List (List UInt8)} (hA : ∀ x ∈ A, (44 : UInt8) ∉ x) (hB : ∀ x ∈ B, (44 : UInt8) ∉ x) (h : optL k A = optL k B) : A = B :=
 (opt_inj (R := []) (S := []) hA hB (by simp) (by simp) (by rw [List.append_nil, List.append_nil]; exact h)).1
def okTm (L : List Tm) : Prop := ∀ t ∈ L, tmMay t = true
theorem terms_no {L : List Tm} (h : okTm L) {c : UInt8} (hc : chOk c = false) (h42 : c ≠ 42) : ∀ x ∈ L.map tmT, c ∉ x := by
 intro x hx
 obtain ⟨t, ht, rfl⟩ := List.mem_map.1 hx
 exact tmT_no (h t ht) hc h42
theorem terms_inj {L M : List Tm} (h1 : okTm L) (h2 : okTm M) (h : L.map tmT = M.map tmT) : L = M := map_inj_on (ok := fun t => tmMay t = true) (fun x y => tmT_inj) h1 h2 h
theorem rows_ok {R : List (List Tm)} (h : rowsMay R = true) : ∀ L ∈ R, okTm L := by
 intro L hL t ht
 unfold rowsMay at h
 have h1 := List.all_eq_true.1 h L hL
 unfold allMay at h1
 rw [Bool.and_eq_true] at h1
 exact List.all_eq_true.1 h1.2 t ht
def okF (s : Sr) : Prop := okTm s.names ∧ okTm s.spaces ∧ ∀ c ∈ s.nets, okN c ∧ nMay c = true
def okG (t : Tg) : Prop := (∀ x ∈ t.ports, portMay x = true) ∧ okTm t.methods ∧ okTm t.paths ∧ okTm t.hosts
def okW (x : Wn) : Prop := x.head.all hdOk = true ∧ x.terms ≠ [] ∧ okTm x.terms
theorem sr_ok {s : Sr} (h : srMay s = true) (hn : ∀ c ∈ s.nets, okN c) : okF s := by
 unfold srMay at h
 simp only [Bool.and_eq_true, decide_eq_true_eq, List.all_eq_true] at h
 have h1 := rows_ok h.1
 exact ⟨h1 _ (by simp), h1 _ (by simp), fun c hc => ⟨hn c hc, h.2.2 c hc⟩⟩
theorem tg_ok {t : Tg} (h : tgMay t = true) : okG t := by
 unfold tgMay at h
 simp only [Bool.and_eq_true, decide_eq_true_eq, List.all_eq_true] at h
 have h1 := rows_ok h.1
 exact ⟨h.2.1.2, h1 _ (by simp), h1 _ (by simp), h1 _ (by simp)⟩
theorem wn_ok {x : Wn} (h : wnMay x = true) : okW x := by
 unfold wnMay hdMay at h
 simp only [Bool.and_eq_true, decide_eq_true_eq] at h
 have h1 := rows_ok h.2.1
 refine ⟨h.1.1, fun e => ?_, h1 _ (by simp)⟩
 have := h.2.2
 rw [e] at this
 simp at this
theorem nets_no {L : List Nt} {c : UInt8} (hc : c.toNat < 46) : ∀ x ∈ L.map printNetA, c ∉ x := by
 intro x hx
 obtain ⟨t, ht, rfl⟩ := List.mem_map.1 hx
 exact net_no hc
theorem ports_no {L : List Int} (h : ∀ x ∈ L, portMay x = true) {c : UInt8} (hc : c.toNat < 48) : ∀ x ∈ L.map Lib.itoa, c ∉ x := by
 intro x hx
 obtain ⟨t, ht, rfl⟩ := List.mem_map.1 hx
 obtain ⟨n, _, e⟩ := port_itoa (h t ht)
 rw [e]
 exact dec_no hc
theorem ports_inj {L M : List Int} (h1 : ∀ x ∈ L, portMay x = true) (h2 : ∀ x ∈ M, portMay x = true) (h : L.map Lib.itoa = M.map Lib.itoa) : L = M :=
 map_inj_on (ok := fun x => portMay x = true) (fun x y hx hy e => by
  obtain ⟨n, rfl, e1⟩ := port_itoa hx
  obtain ⟨m, rfl, e2⟩ := port_itoa hy
  rw [e1, e2] at e
  rw [dec_inj e]) h1 h2 h
theorem hdw_no {l : List UInt8} (h : l.all hdOk = true) {c : UInt8} (hc : hdOk c = false) : c ∉ l := fun hm => by
 have := List.all_eq_true.1 h c hm
 rw [hc] at this
 cases this
/-- A byte that is in no word: a blank, a line feed. -/
structure Out (c : UInt8) : Prop where
 ch : chOk c = false
 n42 : c ≠ 42
 n44 : c ≠ 44
 lt : c.toNat < 46
 n45 : c.toNat ≠ 45
 hd : hdOk c = false
theorem out32 : Out 32 := ⟨by decide, by decide, by decide, by decide, by decide, by decide⟩
theorem out10 : Out 10 := ⟨by decide, by decide, by decide, by decide, by decide, by decide⟩
theorem wordsF_no {s : Sr} (h : okF s) {c : UInt8} (hc : Out c) (h1 : c ∉ wFrom) (h2 : c ∉ wNames) (h3 : c ∉ wSpaces) (h4 : c ∉ wNets) : ∀ x ∈ wordsF s, c ∉ x := by
 intro x hx
 unfold wordsF at hx
 rcases List.mem_cons.1 hx with rfl | hx
 ·exact h1
 ·rcases List.mem_append.1 hx with hx | hx
  ·exact opt_mem h2 hc.n44 (terms_no h.1 hc.ch hc.n42) x hx
  ·rcases List.mem_append.1 hx with hx | hx
   ·exact opt_mem h3 hc.n44 (terms_no h.2.1 hc.ch hc.n42) x hx
   ·exact opt_mem h4 hc.n44 (nets_no hc.lt) x hx
theorem wordsT_no {s : Tg} (h : okG s) {c : UInt8} (hc : Out c) (h1 : c ∉ wTo) (h2 : c ∉ wPorts) (h3 : c ∉ wMethods) (h4 : c ∉ wPaths) (h5 : c ∉ wHosts) : ∀ x ∈ wordsT s, c ∉ x := by
 intro x hx
 have hl := hc.lt
 unfold wordsT at hx
 rcases List.mem_cons.1 hx with rfl | hx
 ·exact h1
 ·rcases List.mem_append.1 hx with hx | hx
  ·exact opt_mem h2 hc.n44 (ports_no h.1 (by omega)) x hx
  ·rcases List.mem_append.1 hx with hx | hx
   ·exact opt_mem h3 hc.n44 (terms_no h.2.1 hc.ch hc.n42) x hx
   ·rcases List.mem_append.1 hx with hx | hx
    ·exact opt_mem h4 hc.n44 (terms_no h.2.2.1 hc.ch hc.n42) x hx
    ·exact opt_mem h5 hc.n44 (terms_no h.2.2.2 hc.ch hc.n42) x hx
theorem wordsW_no {s : Wn} (h : okW s) {c : UInt8} (hc : Out c) (h1 : c ∉ wWhen) : ∀ x ∈ wordsW s, c ∉ x := by
 intro x hx
 unfold wordsW at hx
 rcases List.mem_cons.1 hx with rfl | hx
 ·exact h1
 ·exact opt_mem (hdw_no h.1 hc.hd) hc.n44 (terms_no h.2.2 hc.ch hc.n42) x hx
theorem wordsF_inj {s u : Sr} (hs : okF s) (hu : okF u) (h : wordsF s = wordsF u) : s = u := by
 unfold wordsF at h
 injection h with _ h
 have n44 : ∀ {L : List Tm}, okTm L → ∀ x ∈ L.map tmT, (44 : UInt8) ∉ x := fun hL => terms_no hL (by decide) (by decide)
 obtain ⟨e1, h⟩ := opt_inj (n44 hs.1) (n44 hu.1) (opt_head (by decide) (opt_head0 (by decide))) (opt_head (by decide) (opt_head0 (by decide))) h
 obtain ⟨e2, h⟩ := opt_inj (n44 hs.2.1) (n44 hu.2.1) (opt_head0 (by decide)) (opt_head0 (by decide)) h
 have e3 := opt_inj0 (nets_no (by decide)) (nets_no (by decide)) h
 obtain ⟨a, b, c⟩ := s
 obtain ⟨a', b', c'⟩ := u
 have e4 := terms_inj hs.1 hu.1 e1
 have e5 := terms_inj hs.2.1 hu.2.1 e2
 have e6 := map_inj_on (ok := fun c => okN c ∧ nMay c = true) (fun x y => net_inj) hs.2.2 hu.2.2 e3
 simp only at e4 e5 e6
 rw [e4, e5, e6]
theorem wordsT_inj {s u : Tg} (hs : okG s) (hu : okG u) (h : wordsT s = wordsT u) : s = u := by
 unfold wordsT at h
 injection h with _ h
 have n44 : ∀ {L : List Tm}, okTm L → ∀ x ∈ L.map tmT, (44 : UInt8) ∉ x := fun hL => terms_no hL (by decide) (by decide)
 obtain ⟨e0, h⟩ := opt_inj (ports_no hs.1 (by decide)) (ports_no hu.1 (by decide)) (opt_head (by decide) (opt_head (by decide) (opt_head0 (by decide)))) (opt_head (by decide) (opt_head (by decide) (opt_head0 (by decide)))) h
 obtain ⟨e1, h⟩ := opt_inj (n44 hs.2.1) (n44 hu.2.1) (opt_head (by decide) (opt_head0 (by decide))) (opt_head (by decide) (opt_head0 (by decide))) h
 obtain ⟨e2, h⟩ := opt_inj (n44 hs.2.2.1) (n44 hu.2.2.1) (opt_head0 (by decide)) (opt_head0 (by decide)) h
 have e3 := opt_inj0 (n44 hs.2.2.2) (n44 hu.2.2.2) h
 obtain ⟨a, b, c, d⟩ := s
 obtain ⟨a', b', c', d'⟩ := u
 have e4 := ports_inj hs.1 hu.1 e0
 have e5 := terms_inj hs.2.1 hu.2.1 e1
 have e6 := terms_inj hs.2.2.1 hu.2.2.1 e2
 have e7 := terms_inj hs.2.2.2 hu.2.2.2 e3
 simp only at e4 e5 e6 e7
 rw [e4, e5, e6, e7]
theorem wordsW_inj {s u : Wn} (hs : okW s) (hu : okW u) (h : wordsW s = wordsW u) : s = u := by
 unfold wordsW optL at h
 have n1 : s.terms.map tmT ≠ [] := by simpa using hs.2.1
 have n2 : u.terms.map tmT ≠ [] := by simpa using hu.2.1
 rw [if_neg n1, if_neg n2] at h
 injection h with _ h
 injection h with h1 h
 injection h with h2 _
 have n44 : ∀ {L : List Tm}, okTm L → ∀ x ∈ L.map tmT, (44 : UInt8) ∉ x := fun hL => terms_no hL (by decide) (by decide)
 have e2 := terms_inj hs.2.2 hu.2.2 (join_inj n1 n2 (n44 hs.2.2) (n44 hu.2.2) h2)
 obtain ⟨a, b⟩ := s
 obtain ⟨a', b'⟩ := u
 simp only at h1 e2
 rw [h1, e2]
theorem line_inj {L M : List (List UInt8)} (hL : L ≠ []) (hM : M ≠ []) (h1 : ∀ x ∈ L, (32 : UInt8) ∉ x) (h2 : ∀ x ∈ M, (32 : UInt8) ∉ x) (h : lineOf L = lineOf M) : L = M := join_inj hL hM h1 h2 h
theorem deep_inj {L M : List (List UInt8)} (h : deep L = deep M) : lineOf L = lineOf M := by
 unfold deep at h
 injection h with _ h
 injection h with _ h
 injection h with _ h
 injection h
theorem fromL_inj {s u : Sr} (hs : okF s) (hu : okF u) (h : deep (wordsF s) = deep (wordsF u)) : s = u :=
 wordsF_inj hs hu (line_inj (by simp [wordsF]) (by simp [wordsF]) (wordsF_no hs out32 (by decide) (by decide) (by decide) (by decide)) (wordsF_no hu out32 (by decide) (by decide) (by decide) (by decide)) (deep_inj h))
theorem toL_inj {s u : Tg} (hs : okG s) (hu : okG u) (h : deep (wordsT s) = deep (wordsT u)) : s = u :=
 wordsT_inj hs hu (line_inj (by simp [wordsT]) (by simp [wordsT]) (wordsT_no hs out32 (by decide) (by decide) (by decide) (by decide) (by decide)) (wordsT_no hu out32 (by decide) (by decide) (by decide) (by decide) (by decide)) (deep_inj h))
theorem whenL_inj {s u : Wn} (hs : okW s) (hu : okW u) (h : deep (wordsW s) = deep (wordsW u)) : s = u :=
 wordsW_inj hs hu (line_inj (by simp [wordsW]) (by simp [wordsW]) (wordsW_no hs out32 (by decide)) (wordsW_no hu out32 (by decide)) (deep_inj h))
/-! ### Kinds of lines -/
def kd (x : List UInt8) : Nat := if x[0]? = some 112 then 0 else if x[2]? = some 114 then 1 else if x[4]? = some 102 then 2 else if x[4]? = some 116 then 3 else 4
theorem join_head (x : List UInt8) (L : List (List UInt8)) (s : List UInt8) : ∃ r, Lib.join (x :: L) s = x ++ r := by
 cases L with
 | nil => exact ⟨[], by rw [join_one, List.append_nil]⟩
 | cons y L => exact ⟨s ++ Lib.join (y :: L) s, by rw [join_cons2, List.append_assoc]⟩
theorem kd_P (p : Po) : kd (lineOf (wordsP p)) = 0 := by
 obtain ⟨r, hr⟩ := join_head wPolicy ([Lib.decDigits p.id, if p.deny = 1 then wDeny else wAllow] ++ ((if p.ns = [] then [] else [wNs, p.ns]) ++ (if p.service = 0 then [] else [wService, Lib.decDigits p.service]))) [32]
 have : lineOf (wordsP p) = wPolicy ++ r := hr
 rw [this]
 rfl
theorem kd_R : kd wRule = 1 := by decide
theorem kd_F (s : Sr) : kd (deep (wordsF s)) = 2 := by
 obtain ⟨r, hr⟩ := join_head wFrom (optL wNames (s.names.map tmT) ++ (optL wSpaces (s.spaces.map tmT) ++ optL wNets (s.nets.map printNetA))) [32]
 have : lineOf (wordsF s) = wFrom ++ r := hr
 unfold deep
 rw [this]
 rfl
theorem kd_T (t : Tg) : kd (deep (wordsT t)) = 3 := by
 obtain ⟨r, hr⟩ := join_head wTo (optL wPorts (t.ports.map Lib.itoa) ++ (optL wMethods (t.methods.map tmT) ++ (optL wPaths (t.paths.map tmT) ++ optL wHosts (t.hosts.map tmT)))) [32]
 have : lineOf (wordsT t) = wTo ++ r := hr
 unfold deep
 rw [this]
 rfl
theorem kd_W (x : Wn) : kd (deep (wordsW x)) = 4 := by
 obtain ⟨r, hr⟩ := join_head wWhen (optL x.head (x.terms.map tmT)) [32]
 have : lineOf (wordsW x) = wWhen ++ r := hr
 unfold deep
 rw [this]
 rfl
/-! ### Rules, policies -/
def okR (r : Ru) : Prop := (∀ s ∈ r.froms, okF s) ∧ (∀ t ∈ r.tos, okG t) ∧ ∀ x ∈ r.whens, okW x
def bodyR (r : Ru) : List (List UInt8) := r.froms.map (fun s => deep (wordsF s)) ++ (r.tos.map (fun t => deep (wordsT t)) ++ r.whens.map (fun x => deep (wordsW x)))
theorem linesR_eq (r : Ru) : linesR r = wRule :: bodyR r := rfl
theorem mem_F {L : List Sr} : ∀ x ∈ L.map (fun s => deep (wordsF s)), kd x = 2 := fun x hx => by
 obtain ⟨s, _, rfl⟩ := List.mem_map.1 hx
 exact kd_F s
theorem mem_T {L : List Tg} : ∀ x ∈ L.map (fun s => deep (wordsT s)), kd x = 3 := fun x hx => by
 obtain ⟨s, _, rfl⟩ := List.mem_map.1 hx
 exact kd_T s
theorem mem_W {L : List Wn} : ∀ x ∈ L.map (fun s => deep (wordsW s)), kd x = 4 := fun x hx => by
 obtain ⟨s, _, rfl⟩ := List.mem_map.1 hx
 exact kd_W s
theorem head_mem {α : Type} {L : List α} {x : α} (h : L.head? = some x) : x ∈ L := by
 cases L with
 | nil => cases h
 | cons y L => injection h with h; rw [h]; exact List.mem_cons_self
theorem bodyR_kd (r : Ru) : ∀ x ∈ bodyR r, 2 ≤ kd x := fun x hx => by
 unfold bodyR at hx
 rcases List.mem_append.1 hx with hx | hx
 ·rw [mem_F x hx]; omega
 ·rcases List.mem_append.1 hx with hx | hx
  ·rw [mem_T x hx]; omega
  ·rw [mem_W x hx]; omega
theorem bodyR_inj {r u : Ru} (hr : okR r) (hu : okR u) (h : bodyR r = bodyR u) : r = u := by
 unfold bodyR at h
 have hd : ∀ {A : List Tg} {B : List Wn} (x : List UInt8), (A.map (fun t => deep (wordsT t)) ++ B.map (fun x => deep (wordsW x))).head? = some x → decide (kd x = 2) = false := fun x hx => by
  rcases List.mem_append.1 (head_mem hx) with hm | hm
  ·rw [mem_T x hm]; rfl
  ·rw [mem_W x hm]; rfl
 obtain ⟨e1, h⟩ := span_one (f := fun x => decide (kd x = 2)) (fun x hx => by rw [mem_F x hx]; rfl) (fun x hx => by rw [mem_F x hx]; rfl) hd hd h
 obtain ⟨e2, e3⟩ := span_one (f := fun x => decide (kd x = 3)) (fun x hx => by rw [mem_T x hx]; rfl) (fun x hx => by rw [mem_T x hx]; rfl) (fun x hx => by rw [mem_W x (head_mem hx)]; rfl) (fun x hx => by rw [mem_W x (head_mem hx)]; rfl) h
 have h1 := map_inj_on (ok := okF) (fun x y => fromL_inj) hr.1 hu.1 e1
 have h2 := map_inj_on (ok := okG) (fun x y => toL_inj) hr.2.1 hu.2.1 e2
 have h3 := map_inj_on (ok := okW) (fun x y => whenL_inj) hr.2.2 hu.2.2 e3
 obtain ⟨a, b, c⟩ := r
 obtain ⟨a', b', c'⟩ := u
 simp only at h1 h2 h3
 rw [h1, h2, h3]
theorem rules_kd {L : List Ru} : ∀ x ∈ L.flatMap linesR, 1 ≤ kd x := fun x hx => by
 obtain ⟨r, _, hx⟩ := List.mem_flatMap.1 hx
 rw [linesR_eq] at hx
 rcases List.mem_cons.1 hx with rfl | hx
 ·rw [kd_R]; omega
 ·have := bodyR_kd r x hx; omega
theorem rules_head {L : List Ru} {x : List UInt8} (h : (L.flatMap linesR).head? = some x) : kd x = 1 := by
 cases L with
 | nil => cases h
 | cons r L =>
  rw [List.flatMap_cons, linesR_eq, List.cons_append] at h
  injection h with h
  rw [← h, kd_R]
theorem rules_inj : ∀ {L M : List Ru}, (∀ r ∈ L, okR r) → (∀ r ∈ M, okR r) → L.flatMap linesR = M.flatMap linesR → L = M
 | [], [], _, _, _ => rfl
 | [], r :: M, _, _, h => by rw [List.flatMap_cons, linesR_eq] at h; cases h
 | r :: L, [], _, _, h => by rw [List.flatMap_cons, linesR_eq] at h; cases h
 | r :: L, u :: M, hL, hM, h => by
  rw [List.flatMap_cons, List.flatMap_cons, linesR_eq, linesR_eq, List.cons_append, List.cons_append] at h
  injection h with _ h
  obtain ⟨e1, e2⟩ := span_one (f := fun x => decide (2 ≤ kd x)) (fun x hx => decide_eq_true (bodyR_kd r x hx)) (fun x hx => decide_eq_true (bodyR_kd u x hx)) (fun x hx => by rw [rules_head hx]; rfl) (fun x hx => by rw [rules_head hx]; rfl) h
  rw [bodyR_inj (hL r (List.mem_cons_self)) (hM u (List.mem_cons_self)) e1, rules_inj (fun x hx => hL x (List.mem_cons_of_mem _ hx)) (fun x hx => hM x (List.mem_cons_of_mem _ hx)) e2]
structure okP (p : Po) : Prop where
 deny : p.deny = 0 ∨ p.deny = 1
 ns : ∀ c, Out c → c ∉ p.ns
 rules : ∀ r ∈ p.rules, okR r
theorem wordsP_no {p : Po} (h : okP p) {c : UInt8} (hc : Out c) (h1 : c ∉ wPolicy) (h2 : c ∉ wAllow) (h3 : c ∉ wDeny) (h4 : c ∉ wNs) (h5 : c ∉ wService) : ∀ x ∈ wordsP p, c ∉ x := by
 intro x hx
 have hl := hc.lt
 unfold wordsP at hx
 rcases List.mem_append.1 hx with hx | hx
 ·simp only [List.mem_cons, List.mem_nil_iff, or_false] at hx
  rcases hx with rfl | rfl | rfl
  ·exact h1
  ·exact dec_no (by omega)
  ·split
   ·exact h3
   ·exact h2
 ·rcases List.mem_append.1 hx with hx | hx
  ·split at hx
   ·cases hx
   ·simp only [List.mem_cons, List.mem_nil_iff, or_false] at hx
    rcases hx with rfl | rfl
    ·exact h4
    ·exact h.ns c hc
  ·split at hx
   ·cases hx
   ·simp only [List.mem_cons, List.mem_nil_iff, or_false] at hx
    rcases hx with rfl | rfl
    ·exact h5
    ·exact dec_no (by omega)
theorem wordsP_inj {p q : Po} (hp : okP p) (hq : okP q) (h : wordsP p = wordsP q) : p.id = q.id ∧ p.ns = q.ns ∧ p.service = q.service ∧ p.deny = q.deny := by
 unfold wordsP at h
 simp only [List.cons_append, List.nil_append] at h
 injection h with _ h
 injection h with h1 h
 injection h with h2 h
 have e1 := dec_inj h1
 have e2 : p.deny = q.deny := by
  rcases hp.deny with a | a <;> rcases hq.deny with b | b <;> rw [a, b] at h2 ⊢ <;> exact absurd h2 (by decide)
 have hsv : ∀ n : Nat, ((if n = 0 then [] else [wService, Lib.decDigits n]) : List (List UInt8)).head? ≠ some wNs := fun n => by
  split
  ·simp
  ·intro e
   exact absurd (by simpa using e : wService = wNs) (by decide)
 have hsv2 : ∀ n m : Nat, ((if n = 0 then [] else [wService, Lib.decDigits n]) : List (List UInt8)) = (if m = 0 then [] else [wService, Lib.decDigits m]) → n = m := fun n m e => by
  by_cases a : n = 0 <;> by_cases b : m = 0
  ·rw [a, b]
  ·rw [if_pos a, if_neg b] at e; cases e
  ·rw [if_neg a, if_pos b] at e; cases e
  ·rw [if_neg a, if_neg b] at e
   injection e with _ e
   injection e with e _
   exact dec_inj e
 by_cases a : p.ns = [] <;> by_cases b : q.ns = []
 ·rw [if_pos a, if_pos b, List.nil_append, List.nil_append] at h
  exact ⟨e1, by rw [a, b], hsv2 _ _ h, e2⟩
 ·rw [if_pos a, if_neg b, List.nil_append] at h
  have := hsv p.service
  rw [h] at this
  exact absurd rfl this
 ·rw [if_neg a, if_pos b, List.nil_append] at h
  have := hsv q.service
  rw [← h] at this
  exact absurd rfl this
 ·rw [if_neg a, if_neg b] at h
  simp only [List.cons_append, List.nil_append] at h
  injection h with _ h
  injection h with h3 h
  exact ⟨e1, h3, hsv2 _ _ h, e2⟩
theorem pols_head {L : List Po} {x : List UInt8} (h : (L.flatMap linesP).head? = some x) : kd x = 0 := by
 cases L with
 | nil => cases h
 | cons p L =>
  rw [List.flatMap_cons] at h
  unfold linesP at h
  rw [List.cons_append] at h
  injection h with h
  rw [← h, kd_P]
theorem pols_inj : ∀ {L M : List Po}, (∀ p ∈ L, okP p) → (∀ p ∈ M, okP p) → L.flatMap linesP = M.flatMap linesP → L = M
 | [], [], _, _, _ => rfl
 | [], p :: M, _, _, h => by rw [List.flatMap_cons] at h; unfold linesP at h; cases h
 | p :: L, [], _, _, h => by rw [List.flatMap_cons] at h; unfold linesP at h; cases h
 | p :: L, q :: M, hL, hM, h => by
  rw [List.flatMap_cons, List.flatMap_cons] at h
  have e0 : ∀ x : Po, linesP x = lineOf (wordsP x) :: x.rules.flatMap linesR := fun _ => rfl
  rw [e0, e0, List.cons_append, List.cons_append] at h
  injection h with h0 h
  have hp := hL p (List.mem_cons_self)
  have hq := hM q (List.mem_cons_self)
  obtain ⟨e1, e2⟩ := span_one (f := fun x => decide (1 ≤ kd x)) (fun x hx => decide_eq_true (rules_kd x hx)) (fun x hx => decide_eq_true (rules_kd x hx)) (fun x hx => by rw [pols_head hx]; rfl) (fun x hx => by rw [pols_head hx]; rfl) h
  have e3 := rules_inj hp.rules hq.rules e1
  obtain ⟨f1, f2, f3, f4⟩ := wordsP_inj hp hq (line_inj (by simp [wordsP]) (by simp [wordsP]) (wordsP_no hp out32 (by decide) (by decide) (by decide) (by decide) (by decide)) (wordsP_no hq out32 (by decide) (by decide) (by decide) (by decide) (by decide)) h0)
  have hpq : p = q := by
   obtain ⟨a, b, c, d, e⟩ := p
   obtain ⟨a', b', c', d', e'⟩ := q
   simp only at f1 f2 f3 f4 e3
   rw [f1, f2, f3, f4, e3]
  rw [hpq, pols_inj (fun x hx => hL x (List.mem_cons_of_mem _ hx)) (fun x hx => hM x (List.mem_cons_of_mem _ hx)) e2]
theorem deep_no {L : List (List UInt8)} (h : ∀ x ∈ L, (10 : UInt8) ∉ x) : (10 : UInt8) ∉ deep L := by
 unfold deep lineOf
 simp only [List.mem_cons, not_or]
 exact ⟨by decide, by decide, by decide, by decide, join_no (by decide) h⟩
theorem rule_no {r : Ru} (h : okR r) : ∀ x ∈ linesR r, (10 : UInt8) ∉ x := fun x hx => by
 rw [linesR_eq] at hx
 rcases List.mem_cons.1 hx with rfl | hx
 ·decide
 ·unfold bodyR at hx
  rcases List.mem_append.1 hx with hx | hx
  ·obtain ⟨s, hs, rfl⟩ := List.mem_map.1 hx
   exact deep_no (wordsF_no (h.1 s hs) out10 (by decide) (by decide) (by decide) (by decide))
  ·rcases List.mem_append.1 hx with hx | hx
   ·obtain ⟨s, hs, rfl⟩ := List.mem_map.1 hx
    exact deep_no (wordsT_no (h.2.1 s hs) out10 (by decide) (by decide) (by decide) (by decide) (by decide))
   ·obtain ⟨s, hs, rfl⟩ := List.mem_map.1 hx
    exact deep_no (wordsW_no (h.2.2 s hs) out10 (by decide))
theorem pols_no {L : List Po} (h : ∀ p ∈ L, okP p) : ∀ x ∈ L.flatMap linesP, (10 : UInt8) ∉ x := fun x hx => by
 obtain ⟨p, hp, hx⟩ := List.mem_flatMap.1 hx
 unfold linesP at hx
 rcases List.mem_cons.1 hx with rfl | hx
 ·exact join_no (by decide) (wordsP_no (h p hp) out10 (by decide) (by decide) (by decide) (by decide) (by decide))
 ·obtain ⟨r, hr, hx⟩ := List.mem_flatMap.1 hx
  exact rule_no ((h p hp).rules r hr) x hx
/-- Unlike rows of policies have unlike texts. -/
theorem text_inj {L M : List Po} (hL : ∀ p ∈ L, okP p) (hM : ∀ p ∈ M, okP p) (h : textP L = textP M) : L = M :=
 pols_inj hL hM (textL_inj (pols_no hL) (pols_no hM) h)
theorem lab_no {l : List UInt8} (h : labB l = true) : ∀ c, Out c → c ∉ l := by
 intro c hc hm
 unfold labB at h
 simp only [Bool.and_eq_true, List.all_eq_true, List.mem_range, decide_eq_true_eq] at h
 obtain ⟨i, hi, rfl⟩ := List.mem_iff_getElem.1 hm
 have h1 := h.1.1 i hi
 have h2 : at8 l i = l[i] := by simp [at8, List.getD, hi]
 rw [h2] at h1
 have hl := hc.lt
 have hh := hc.n45
 unfold okB at h1
 simp only [Bool.and_eq_true, Bool.or_eq_true, decide_eq_true_eq, beq_iff_eq] at h1
 omega
theorem po_okP {p : Po} (h : poMay p = true) (hok : okPo p) : okP p := by
 unfold poMay at h
 simp only [Bool.and_eq_true, Bool.or_eq_true, decide_eq_true_eq, List.all_eq_true] at h
 obtain ⟨_, _, hn, _, hd, _, hr⟩ := h
 refine ⟨hd, fun c hc => ?_, fun r hr' => ?_⟩
 ·rcases hn with hn | hn
  ·rw [List.isEmpty_iff] at hn
   rw [hn]
   simp
  ·exact lab_no hn c hc
 ·have h1 := hr r hr'
  have h2 := hok.2.2.2.2.2 r hr'
  unfold ruMay at h1
  simp only [Bool.and_eq_true, decide_eq_true_eq, List.all_eq_true] at h1
  exact ⟨fun s hs => sr_ok (h1.1.2 s hs) (h2.1.2 s hs).2.2.2, fun t ht => tg_ok (h1.2.1.2 t ht), fun x hx => wn_ok (h1.2.2.2 x hx)⟩
end Go.Proofs.YtpcdmbajfmnoiaaGreatDoor
