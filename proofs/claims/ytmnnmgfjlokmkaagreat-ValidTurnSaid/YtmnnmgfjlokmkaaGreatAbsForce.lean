import Derived.Test.YtmnnmgfjlokmkaaGreatAbsSlim
namespace Go.Abs
section
variable {α : Type}
def fN (n : Nat) (K : Nat → α) : α := match n with
 | 0 => K 0
 | 1 => K 1
 | 2 => K 2
 | 3 => K 3
 | 4 => K 4
 | 5 => K 5
 | 6 => K 6
 | 7 => K 7
 | 8 => K 8
 | 9 => K 9
 | 10 => K 10
 | 11 => K 11
 | 12 => K 12
 | 13 => K 13
 | 14 => K 14
 | 15 => K 15
 | 16 => K 16
 | 24 => K 24
 | 32 => K 32
 | 40 => K 40
 | 48 => K 48
 | 56 => K 56
 | 64 => K 64
 | 72 => K 72
 | 80 => K 80
 | 88 => K 88
 | 96 => K 96
 | 104 => K 104
 | 112 => K 112
 | 120 => K 120
 | 128 => K 128
 | 136 => K 136
 | 144 => K 144
 | 152 => K 152
 | 160 => K 160
 | 168 => K 168
 | 176 => K 176
 | 184 => K 184
 | 192 => K 192
 | 200 => K 200
 | 208 => K 208
 | 216 => K 216
 | 224 => K 224
 | 232 => K 232
 | 240 => K 240
 | 248 => K 248
 | 256 => K 256
 | n => K n
def fB (b : Bool) (K : Bool → α) : α := match b with
 | true => K true
 | false => K false
def fV (v : AV) (K : AV → α) : α := match v with
 | .bool b => K (.bool b)
 | .int k n => K (.int k n)
 | .nil k => K (.nil k)
 | v => K v
def fVs : List AV → (List AV → α) → α
 | [], K => K []
 | v :: l, K => fV v fun v => fVs l fun l => K (v :: l)
def fX (x : SX) (K : SX → α) : α := match x with
 | .r t => K (.r t)
 | .c v => fV v fun v => K (.c v)
def fXs : List SX → (List SX → α) → α
 | [], K => K []
 | x :: l, K => fX x fun x => fXs l fun l => K (x :: l)
def fXO (x : Option SX) (K : Option SX → α) : α := match x with
 | none => K none
 | some x => fX x fun x => K (some x)
def fNO (n : Option Nat) (K : Option Nat → α) : α := match n with
 | none => K none
 | some n => fN n fun n => K (some n)
def fPs : List (Nat × Nat × SX) → (List (Nat × Nat × SX) → α) → α
 | [], K => K []
 | (a, b, x) :: l, K => fN a fun a => fN b fun b => fX x fun x => fPs l fun l => K ((a, b, x) :: l)
def fNN : List (Nat × Nat) → (List (Nat × Nat) → α) → α
 | [], K => K []
 | (a, b) :: l, K => fN a fun a => fN b fun b => fNN l fun l => K ((a, b) :: l)
def fG (g : Option (Nat × Bool)) (K : Option (Nat × Bool) → α) : α := match g with
 | none => K none
 | some (a, b) => fB b fun b => K (some (a, b))
def fK (k : SK) (K : SK → α) : α := match k with
 | .mv x => fX x fun x => K (.mv x)
 | .pick c a b => fX c fun c => fX a fun a => fX b fun b => K (.pick c a b)
 | .bin op x y => fX x fun x => fX y fun y => K (.bin op x y)
 | .beq n x y => fB n fun n => fX x fun x => fX y fun y => K (.beq n x y)
 | .isnil n k x => fB n fun n => fX x fun x => K (.isnil n k x)
 | .un op x => fX x fun x => K (.un op x)
 | .fa x o => fX x fun x => fN o fun o => K (.fa x o)
 | .ia x i n s => fX x fun x => fX i fun i => fNO n fun n => fN s fun s => K (.ia x i n s)
 | .ld x n => fX x fun x => fNO n fun n => K (.ld x n)
 | .fld x o n => fX x fun x => fN o fun o => fNO n fun n => K (.fld x o n)
 | .ext x i => fX x fun x => fN i fun i => K (.ext x i)
 | .len x n => fX x fun x => fNO n fun n => K (.len x n)
 | .lens x => fX x fun x => K (.lens x)
 | .cv k x => fX x fun x => K (.cv k x)
 | .ss x => fX x fun x => K (.ss x)
 | .chk x => fX x fun x => K (.chk x)
 | .bld z ps => fVs z fun z => fPs ps fun ps => K (.bld z ps)
 | .mkf f a b => fXs a fun a => fXs b fun b => K (.mkf f a b)
 | .slt x lo hi s => fX x fun x => fXO lo fun lo => fXO hi fun hi => fN s fun s => K (.slt x lo hi s)
 | .sls x lo hi => fX x fun x => fXO lo fun lo => fXO hi fun hi => K (.sls x lo hi)
 | .b2s x => fX x fun x => K (.b2s x)
 | .box x => fX x fun x => K (.box x)
 | .bsl z s len ps => fVs z fun z => fN s fun s => fPs ps fun ps => K (.bsl z s len ps)
 | .call x l => fX x fun x => fXs l fun l => K (.call x l)
 | .mnx m l => fB m fun m => fXs l fun l => K (.mnx m l)
 | .raw => K .raw
 | .hbox e x => fB e fun e => fX x fun x => K (.hbox e x)
 | .alc e z => fB e fun e => fVs z fun z => K (.alc e z)
 | .st x v n => fX x fun x => fX v fun v => fN n fun n => K (.st x v n)
 | .app s b x y => fN s fun s => fN b fun b => fX x fun x => fX y fun y => K (.app s b x y)
 | .apps s b x y => fN s fun s => fN b fun b => fX x fun x => fX y fun y => K (.apps s b x y)
 | .appT s b x y => fN s fun s => fN b fun b => fX x fun x => fX y fun y => K (.appT s b x y)
 | .appsT s b x y => fN s fun s => fN b fun b => fX x fun x => fX y fun y => K (.appsT s b x y)
 | .appz s b z x y => fN s fun s => fN b fun b => fVs z fun z => fX x fun x => fX y fun y => K (.appz s b z x y)
 | .sla x n lo hi s => fX x fun x => fXO lo fun lo => fXO hi fun hi => fN s fun s => K (.sla x n lo hi s)
 | .cvs x => fX x fun x => K (.cvs x)
 | .ixs x i => fX x fun x => fX i fun i => K (.ixs x i)
 | .ixa x i n s g => fX x fun x => fX i fun i => fN n fun n => fN s fun s => fNO g fun g => K (.ixa x i n s g)
 | .cpy s x y => fN s fun s => fX x fun x => fX y fun y => K (.cpy s x y)
 | .hbs z s len ps => fVs z fun z => fN s fun s => fPs ps fun ps => K (.hbs z s len ps)
 | .mks r z s b n c => fB r fun r => fVs z fun z => fN s fun s => fN b fun b => fX n fun n => fX c fun c => K (.mks r z s b n c)
 | .s2b r x => fB r fun r => fX x fun x => K (.s2b r x)
 | .eqs n l x y => fB n fun n => fNN l fun l => fX x fun x => fX y fun y => K (.eqs n l x y)
 | .clr s z x => fN s fun s => fVs z fun z => fX x fun x => K (.clr s z x)
 | k => K k
def fD (d : Option Nat) (K : Option Nat → α) : α := match d with
 | none => K none
 | some d => K (some d)
def fOs : List SO → (List SO → α) → α
 | [], K => K []
 | ⟨d, g, k⟩ :: l, K => fD d fun d => fG g fun g => fK k fun k => fOs l fun l => K (⟨d, g, k⟩ :: l)
def fC : SC → (SC → α) → α
 | .skip, K => K .skip
 | .reg ps l, K => fNN ps fun ps => fOs l fun l => K (.reg ps l)
 | .seq a b, K => fC a fun a => fC b fun b => K (.seq a b)
 | .cond x a b, K => fX x fun x => fC a fun a => fC b fun b => K (.cond x a b)
 | .block i b, K => fC b fun b => K (.block i b)
 | .loop b, K => fC b fun b => K (.loop b)
 | .exit i, K => K (.exit i)
 | .ret, K => K .ret
variable {β : Type}
theorem fN_eq (n : Nat) (K : Nat → β) : fN n K = K n := by unfold fN; split <;> rfl
theorem fB_eq (n : Bool) (K : Bool → β) : fB n K = K n := by cases n <;> rfl
theorem fV_eq (n : AV) (K : AV → β) : fV n K = K n := by cases n <;> rfl
theorem fVs_eq : ∀ (l : List AV) (K : List AV → β), fVs l K = K l
 | [], _ => rfl
 | v :: l, K => by unfold fVs; rw [fV_eq, fVs_eq l]
theorem fX_eq (x : SX) (K : SX → β) : fX x K = K x := by cases x <;> simp [fX, fV_eq]
theorem fXs_eq : ∀ (l : List SX) (K : List SX → β), fXs l K = K l
 | [], _ => rfl
 | v :: l, K => by unfold fXs; rw [fX_eq, fXs_eq l]
theorem fXO_eq (x : Option SX) (K : Option SX → β) : fXO x K = K x := by cases x <;> simp [fXO, fX_eq]
theorem fNO_eq (x : Option Nat) (K : Option Nat → β) : fNO x K = K x := by cases x <;> simp [fNO, fN_eq]
theorem fPs_eq : ∀ (l : List (Nat × Nat × SX)) (K : List (Nat × Nat × SX) → β), fPs l K = K l
 | [], _ => rfl
 | (a, b, x) :: l, K => by unfold fPs; rw [fN_eq, fN_eq, fX_eq, fPs_eq l]
theorem fNN_eq : ∀ (l : List (Nat × Nat)) (K : List (Nat × Nat) → β), fNN l K = K l
 | [], _ => rfl
 | (a, b) :: l, K => by unfold fNN; rw [fN_eq, fN_eq, fNN_eq l]
theorem fG_eq (g : Option (Nat × Bool)) (K : Option (Nat × Bool) → β) : fG g K = K g := by
 rcases g with _ | ⟨a, b⟩
 ·rfl
 ·simp [fG, fB_eq]
theorem fK_eq (k : SK) (K : SK → β) : fK k K = K k := by
 cases k <;> simp only [fK, fN_eq, fB_eq, fVs_eq, fX_eq, fXs_eq, fXO_eq, fNO_eq, fPs_eq, fNN_eq]
theorem fD_eq (d : Option Nat) (K : Option Nat → β) : fD d K = K d := by cases d <;> rfl
theorem fOs_eq : ∀ (l : List SO) (K : List SO → β), fOs l K = K l
 | [], _ => rfl
 | ⟨d, g, k⟩ :: l, K => by unfold fOs; rw [fD_eq, fG_eq, fK_eq, fOs_eq l]
theorem fC_eq : ∀ (c : SC) (K : SC → β), fC c K = K c
 | .skip, _ => rfl
 | .reg ps l, K => by unfold fC; rw [fNN_eq, fOs_eq]
 | .seq a b, K => by unfold fC; rw [fC_eq a, fC_eq b]
 | .cond x a b, K => by unfold fC; rw [fX_eq, fC_eq a, fC_eq b]
 | .block i b, K => by unfold fC; rw [fC_eq b]
 | .loop b, K => by unfold fC; rw [fC_eq b]
 | .exit i, _ => rfl
 | .ret, _ => rfl
end
def fOut : Option SC → Option SC
 | some c => fC c some
 | none => none
theorem frc {x : Option SC} {c : SC} (h : fOut x = some c) : x = some c := by
 cases x with
 | none => cases h
 | some d =>
  exact (fC_eq d some).symm.trans h
end Go.Abs
