/- The shelf of this seat is whole: nothing more. -/
import Derived.Test.YtiepphjpfjfkmaaGreatDoorShelf
